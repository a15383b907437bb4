/- Lemmas. Conditions: none. -/
import Derived.Test.YtmigecldjbgneaaGreatDoorQKAX
set_option maxHeartbeats 4000000
namespace Go.Proofs.YtmigecldjbgneaaGreatDoor
open Go.Vx
set_option maxRecDepth 100000
theorem N2(l:List (List D))(hl:l.length<100000000):Z0 85 [.d (.sl 7 l)] (.d (.sl 7 l)):=by
 refine sh0 Tryz.f85 ?_;cases l with
 |nil=>
  repeat' ((conv=>whnf);first|exact zf|refine zm ?_|refine zB ?_ ?_|refine And.intro ?_ ?_|intro _)
 |cons r l=>
  repeat' ((conv=>whnf);first|exact zf|refine zm ?_|refine zB ?_ ?_|intro _)
theorem uj(o:Ob)(hl:o.va.q.length<100000000):Z0 49 [jG o] (jG o):=by
 have h1:=N2 (o.va.q.map ek) (by rw[aI];exact hl);refine sh0 Tryz.f49 ?_
 repeat' ((conv=>whnf);first|exact zf|refine zm ?_|refine zc h1 ?_|refine zB ?_ ?_|intro _)
def iW(l:List (List UInt8×Ob)):List (D×Bool×List D):=l.map λp=>(.str p.1,true,pE p.2)
def bw(key:List UInt8):List (List UInt8×Ob)->Option (Nat×Ob)
 |[]=>none
 |p::r=>if key=p.1 then some (0,p.2)else(bw key r).map λx=>(x.1+1,x.2)
theorem rS(key:List UInt8):∀(l:List (List UInt8×Ob))(i:Nat),nI [2] [.d (.str key)] (fC (iW l)) i=some ((bw key l).map λx=>(x.1+i,jG x.2))
 |[],i=>rfl
 |p::r,i=>by
  have ih:=rS key r (i+1);show(bif true then(match some ((key==p.1)&&true) with
   |some b=>bif b then some (some (i,jG p.2))else nI [2] [.d (.str key)] (fC (iW r)) (i+1)
   |none=>none)else none)=_
  rw[bw]
  by_cases h:key=p.1
  .rw[ζ h,h];simp
  .rw[η h,ih];have:(key==p.1)=false:=by simpa using h
   rw[this];simp only[δ,ε,iV,Option.map_map];congr 1;congr 1
   funext x
   simp only[jK];rw[show x.1+1+i=x.1+(i+1)by omega]
abbrev my:=List (Lb×Option Nat×List (List Nat))
def ik(l:my):List ME:=l.map λp=>((p.1.s,p.1.i),some (p.2.1,cM (p.2.2.map b8)))
structure br where
  th:List (List UInt8×Ob)
  nm:my
def mZ(s:br):H:=[.cells [.mp 1,.mp 2],.dm (iW s.th),.ms 1 (ik s.nm) none none]
theorem Ue{K:KT}(hk:K (.ret (.p 0 0)) (mZ ⟨[],[]⟩)):Z1 23 [] [] K:=by
 refine s23.go (keep:=false) rfl ?_
 repeat' ((conv=>whnf);first|exact zf|refine zm ?_|refine zB ?_ ?_|intro _)
 exact hk
theorem Ut{K:KT}(s:br)(hk:K (.ret (.d (.int .i64 s.th.length))) (mZ s)):Z1 18 [.p 0 0] (mZ s) K:=by
 have e:(iW s.th).length=s.th.length:=aI _;rw[<-e]at hk;refine sh0 Tryz.f18 ?_
 repeat' ((conv=>whnf);first|exact zf|refine zm ?_|refine zB ?_ ?_|intro _)
 exact hk
def fy(s:br)(key:List UInt8):Ob:=((bw key s.th).map (·.2)).getD fo
def l9(s:br)(key:List UInt8):Bool:=(bw key s.th).isSome
theorem qb{K:KT}(s:br)(key:List UInt8)(hq:(fy s key).va.q.length<100000000)(hk:K (.ret (.tu [jG (fy s key),.d (.bool (l9 s key))])) (mZ s)):Z1 111 [.p 0 0,.d (.str key)] (mZ s) K:=by
 have hc:=uj (fy s key) hq;have hf:=rS key s.th 0;unfold fy l9 at *;cases h:bw key s.th with
 |none=>
  rw[h]at hk hc hf;refine sh0 Tryz.f111 ?_
  repeat' ((conv=>whnf);first|exact zf|refine zm ?_|refine zB ?_ ?_|intro _)
  refine⟨_,hf,?_⟩
  repeat' ((conv=>whnf);first|exact zf|refine zm ?_|refine zc hc ?_|refine zB ?_ ?_|intro _)
  exact hk
 |some p=>
  rw[h]at hk hc hf;refine sh0 Tryz.f111 ?_
  repeat' ((conv=>whnf);first|exact zf|refine zm ?_|refine zB ?_ ?_|intro _)
  refine⟨_,hf,?_⟩
  repeat' ((conv=>whnf);first|exact zf|refine zm ?_|refine zc hc ?_|refine zB ?_ ?_|intro _)
  exact hk
theorem La(l:List (List UInt8×Ob))(i:Nat)(key:List UInt8)(o:Ob):(iW l).set i (.str key,true,pE o)=iW (l.set i (key,o)):=by
 simp[iW]
def jw(s:br)(i:Nat)(key:List UInt8)(o:Ob):br:={s with th:=s.th.set i (key,o)}
theorem lC{K:KT}(s:br)(key:List UInt8)(i:Nat)(o gC:Ob)(hf:bw key s.th=some (i,gC))(h1:gC.k=o.k)(h2:gC.l=o.l)(hq:o.va.q.length<100000000)(hk:K (.ret (.d (.int .i64 0))) (mZ (jw s i key o))) :
  Z1 135 [.p 0 0,.d (.str key),jG o] (mZ s) K:=by
 have hc:=uj o hq;have hm:=rS key s.th 0;rw[hf]at hm;unfold jw mZ at hk;simp only[<-La]at hk;have e1:(gC.k != o.k)=false:=by simp[h1]
 have e2:(gC.l.s==o.l.s&&(gC.l.i==o.l.i&&true))=true:=by simp[h2]
 refine s135.go (keep:=false) rfl ?_
 repeat' ((conv=>whnf);first|exact zf|refine zm ?_|refine zB ?_ ?_|intro _)
 refine⟨_,hm,?_⟩
 repeat' ((conv=>whnf);first|exact zf|refine zm ?_|refine zc hc ?_|refine zB ?_ ?_|refine zt ?_|refine zu ?_|intro _)
 refine⟨_,hm,?_⟩
 repeat' ((conv=>whnf);first|exact zf|refine zm ?_|refine zB ?_ ?_|refine zt ?_|refine zu ?_|intro _)
 exact hk
def Vy(l:List (List Nat))(key:List Nat)(i:Nat):Bool:=match l[i]? with
 |some x=>decide (cmpL x key<0)
 |none=>false
def yA(l:List (List Nat))(key:List Nat):Nat->Nat->Nat->Nat
 |0,i,_=>i
 |f+1,i,j=>bif decide (i<j)then(bif Vy l key ((i+j) / 2)then yA l key f ((i+j) / 2+1) j else yA l key f i ((i+j) / 2))else i
def dr(l:List Nat):Prop:=l≠[]/\l.length<=24/\∀n∈l,n<100
theorem Gw(a:Nat):A_ .shr .u64 (a:Int) 1=((a / 2:Nat):Int):=by
 show(a:Int).fdiv (2 ^ min (1:Int).toNat IntKind.u64.bits)=_;rw[show min (1:Int).toNat IntKind.u64.bits=1 by decide,show(2:Int) ^ 1=2 by decide,Int.fdiv_eq_ediv_of_nonneg _ (by omega)];omega
def mV(l:List (List Nat))(key:List Nat):Nat:=yA l key l.length 0 l.length
def uv(l:List (List Nat))(key:List Nat):Bool:=match l[mV l key]? with
 |some x=>cmpL x key==0
 |none=>false
theorem tA(l:List (List Nat))(key:List Nat):∀f i j,i<=j->j<=l.length->yA l key f i j<=l.length
 |0,i,j,h1,h2=>by rw[yA];omega
 |f+1,i,j,h1,h2=>by
  rw[yA];cases hd:decide (i<j) with
  |false=>rw[ε];omega
  |true=>
   have hd:=θ hd;rw[δ];cases Vy l key ((i+j) / 2)
   .exact tA l key f i _ (by omega) (by omega)
   .exact tA l key f _ j (by omega) h2
theorem qj(l:List (List Nat))(key:List Nat)(hl:∀x∈l,dr x)(hk:dr key)(hn:l.length<1000000000) :
  Z0 50 [.d (.sl 1 (cM (l.map b8))),.d (.str (b8 key)),.d (.fn 51)] (.tu [.d (.int .i64 (mV l key)),.d (.bool (uv l key))]):=by
 have e1:(cM (l.map b8)).length=l.length:=by rw[ff,aI]
 have hrow:∀(i:Nat)(x:List Nat),l[i]?=some x->(cM (l.map b8))[i]?=some [D.str (b8 x)]:=λi x h=>by simp[cM,h]
 refine sh0 Tryz.f50 ?_
 repeat' ((conv=>whnf);first|exact zf|refine zm ?_|refine zB ?_ ?_|intro _)
 conv=>whnf
 refine bA [(0,.d (.sl 1 (cM (l.map b8)))),(1,.d (.str (b8 key))),(2,.d (.fn 51)),(8,.d (.int .i64 (cM (l.map b8)).length))] (λp:Nat×Nat=>(p.1<=p.2/\p.2<=l.length)/\∃f,p.2-p.1<=f/\yA l key f p.1 p.2=mV l key) (λp=>[(9,.d (.int .i64 p.1)),(10,.d (.int .i64 p.2))]) (λ_=>[]) (λp=>p.2-p.1) (0,l.length) ⟨⟨aY _,aL _⟩,l.length,by simp,rfl⟩ ?_ ?_ ?_ (λ⟨i,j⟩ hi=>?_)
 .exact⟨rfl,κ (λx:Nat=>V.d (D.int .i64 x)) e1,rfl,rfl,rfl,rfl,trivial⟩
 .exact zzz
 .exact zx0
 obtain⟨⟨h1,h2⟩,f,h3,h4⟩:=hi;simp only at h1 h2 h3 h4
 repeat' ((conv=>whnf);first|exact zf|refine zm ?_|refine zB ?_ ?_|intro _)
 refine aU (λhlt=>?_) (λhge=>?_)
 .have hlt:i<j:=by have:=θ hlt;omega
  have hsh:A_ .shr .u64 ((i:Int)+(j:Int)) 1=(((i+j) / 2:Nat):Int):=by rw[show(i:Int)+(j:Int)=((i+j:Nat):Int)by omega];exact Gw _
  have hm:(i+j) / 2<l.length:=by omega
  obtain⟨x,hx⟩:∃x,l[(i+j) / 2]?=some x:=⟨_,aA hm⟩
  have hgx:=hl x (aG hx);have ho:=Cv x key hgx.1 hgx.2.1 hgx.2.2 hk.1 hk.2.1 hk.2.2;have hlt':Vy l key ((i+j) / 2)=decide (cmpL x key<0):=by unfold Vy;rw[hx]
  obtain⟨f,rfl⟩:∃f',f=f'+1:=⟨f-1,by omega⟩
  rw[yA,φ hlt,δ,hlt']at h4
  repeat' ((conv=>whnf);first|exact zf|refine zm ?_|refine zi0 ?_|refine⟨[.str (b8 x)],⟨by dsimp only;omega,by dsimp only;rw[hsh];exact hrow _ _ hx,rfl⟩,?_⟩|refine zc ho ?_|refine zB ?_ ?_|intro _)
  refine aU (λhb=>?_) (λhb=>?_)
  .rw[show decide (cmpL x key<0)=true from hb,δ]at h4;have hs1:A_ .shr .u64 ((i:Int)+(j:Int)) 1+1=(((i+j) / 2+1:Nat):Int):=by rw[hsh];rfl
   repeat' ((conv=>whnf);first|exact zf|refine zm ?_|refine zi0 ?_|refine zB ?_ ?_|intro _)
   exact⟨((i+j) / 2+1,j),⟨⟨by dsimp only;omega,h2⟩,f,by dsimp only;omega,h4⟩,by dsimp only;omega,⟨κ (λx:Int=>V.d (D.int .i64 x)) hs1,rfl,rfl,rfl,rfl,rfl,trivial⟩,zzz,rfl⟩
  .rw[show decide (cmpL x key<0)=false from hb,ε]at h4
   repeat' ((conv=>whnf);first|exact zf|refine zm ?_|refine zB ?_ ?_|intro _)
   exact⟨(i,(i+j) / 2),⟨⟨by dsimp only;omega,by dsimp only;omega⟩,f,by dsimp only;omega,h4⟩,by dsimp only;omega,⟨rfl,κ (λx:Int=>V.d (D.int .i64 x)) hsh,rfl,rfl,rfl,rfl,trivial⟩,zzz,rfl⟩
 .have hij:i=j:=by have:=ι hge;omega
  subst hij;have hb:mV l key=i:=by
   rw[<-h4];cases f with
   |zero=>rfl
   |succ f=>rw[yA,τ (Nat.lt_irrefl i),ε]
  unfold uv;rw[hb];cases hx:l[i]? with
  |none=>
   have hil:¬i<l.length:=by rw[List.getElem?_eq_none_iff]at hx;omega
   repeat' ((conv=>whnf);first|exact zf|refine zm ?_|refine zB ?_ ?_|refine zt ?_|refine zu ?_|intro _)
  |some x=>
   have hil:=(aC.1 hx).1;have hgx:=hl x (aG hx);have ho:=Cv x key hgx.1 hgx.2.1 hgx.2.2 hk.1 hk.2.1 hk.2.2
   repeat' ((conv=>whnf);first|exact zf|refine zm ?_|refine zc ho ?_|refine⟨[.str (b8 x)],⟨by dsimp only;omega,hrow _ _ hx,rfl⟩,?_⟩|refine zB ?_ ?_|refine zt ?_|refine zu ?_|intro _)
def mN(ns:List (List Nat))(kp:List Nat):List (List Nat):=ns.take (mV ns kp)++kp::ns.drop (mV ns kp)
def xi(l:Lb):my->Option Nat
 |[]=>none
 |p::r=>if p.1.s=l.s/\p.1.i=l.i then some 0 else(xi l r).map (· + 1)
def CU(nm:my)(l:Lb)(kp:List Nat)(b:Option Nat):my:=
 match xi l nm with
 |some i=>nm.modify i λp=>(p.1,b,mN p.2.2 kp)
 |none=>nm++[(l,b,[kp])]
def Ko(s:br)(kp:List Nat)(o:Ob)(b:Option Nat):br:=⟨s.th++[(b8 kp,o)],CU s.nm o.l kp b⟩
def mj(s:br):Prop:=s.nm.length<1000000000/\∀p∈s.nm,p.2.2.length<100000000/\∀x∈p.2.2,dr x
theorem Np{K:KT}(s:br)(kp:List Nat)(o:Ob)(hkp:dr kp)(hl:cC o.l)(h:(o.k<3\/7<o.k)\/pN o.l=false)(hk:K (.ret (.d (.int .i64 1))) (mZ s)) :
  Z1 25 [.p 0 0,.d (.str (b8 kp)),jG o] (mZ s) K:=by
 have h1:=xE kp hkp.1 hkp.2.1 hkp.2.2;have h2:=i_ o.l hl
 by_cases ha:o.k<3
 .refine s25.go (keep:=false) rfl ?_
  repeat' ((conv=>whnf);first|exact zf|refine zm ?_|refine zc h1 ?_|refine zB ?_ ?_|refine zt ?_|refine zu ?_|intro _)
  exact hk
 .by_cases hb:7<o.k
  .refine s25.go (keep:=false) rfl ?_
   repeat' ((conv=>whnf);first|exact zf|refine zm ?_|refine zc h1 ?_|refine zB ?_ ?_|refine zt ?_|refine zu ?_|intro _)
   exact hk
  .have hc:pN o.l=false:=h.resolve_left λh=>h.elim ha hb;rw[hc]at h2;refine s25.go (keep:=false) rfl ?_
   repeat' ((conv=>whnf);first|exact zf|refine zm ?_|refine zc h1 ?_|refine zc h2 ?_|refine zB ?_ ?_|refine zt ?_|refine zu ?_|intro _)
   exact hk
theorem Fo{K:KT}(s:br)(kp:List Nat)(o gC:Ob)(i:Nat)(hkp:dr kp)(hl:cC o.l)(h3:3<=o.k)(h7:o.k<=7)(hr:pN o.l=true)(hf:bw (b8 kp) s.th=some (i,gC))(hk:K (.ret (.d (.int .i64 12))) (mZ s)) :
  Z1 25 [.p 0 0,.d (.str (b8 kp)),jG o] (mZ s) K:=by
 have h1:=xE kp hkp.1 hkp.2.1 hkp.2.2;have h2:=i_ o.l hl;rw[hr]at h2;have hm:=rS (b8 kp) s.th 0;rw[hf]at hm;refine s25.go (keep:=false) rfl ?_
 repeat' ((conv=>whnf);first|exact zf|refine zm ?_|refine zc h1 ?_|refine zc h2 ?_|refine zB ?_ ?_|refine zt ?_|refine zu ?_|intro _)
 refine⟨_,hm,?_⟩
 repeat' ((conv=>whnf);first|exact zf|refine zm ?_|refine zB ?_ ?_|refine zt ?_|refine zu ?_|intro _)
 exact hk
theorem JB(l:Lb):∀nm:my,lW (l.s,l.i) (ik nm)=xi l nm
 |[]=>rfl
 |p::r=>by
  have ih:=JB l r;unfold lW ik at *;rw[dI,gQ,ih,xi]
  by_cases h:p.1.s=l.s/\p.1.i=l.i
  .rw[ζ h];simp[h.1,h.2]
  .rw[η h];have:((p.1.s,p.1.i)==(l.s,l.i))=false:=by
    rw[beq_eq_false_iff_ne];intro e;exact h ⟨κ (·.1) e,κ (·.2) e⟩
   simp[this]
theorem wH{l:Lb}:∀{nm:my}{i:Nat},xi l nm=some i->∃p,nm[i]?=some p/\p.1=l
 |[],_,h=>by cases h
 |p::r,i,h=>by
  rw[xi]at h;split at h
  .rename_i hp;cases h;refine⟨p,rfl,?_⟩;obtain⟨⟨a,b⟩,q⟩:=p;cases l;simp only at hp;rw[hp.1,hp.2]
  .cases hr:xi l r with
   |none=>rw[hr]at h;cases h
   |some j=>
    rw[hr]at h;cases h;obtain⟨q,h1,h2⟩:=wH hr;exact⟨q,by simpa using h1,h2⟩
theorem zS{k:List UInt8×List UInt8}{x:Option (Option Nat×List (List D))}:∀{es:List ME}{i:Nat},lW k (eQ i x es)=lW k es
 |[],i=>by cases i<;>rfl
 |e::es,0=>by simp[lW,eQ,gQ]
 |e::es,i+1=>by
  have ih:=zS (k:=k) (x:=x) (es:=es) (i:=i);unfold lW eQ at *;rw[List.modify_succ_cons,gQ,gQ,ih]
theorem wA{i:Nat}{x y:Option (Option Nat×List (List D))}{es:List ME}:eQ i x (eQ i y es)=eQ i x es:=by
 apply bz;intro j;rw[fX,fX,fX]
 by_cases h:i=j
 .rw[ζ h,ζ h,ζ h];cases es[j]?<;>rfl
 .rw[η h,η h,η h]
theorem M4(nm:my)(l:Lb)(b:Option Nat)(kp:List Nat):ik (nm++[(l,b,[kp])])=ik nm++[((l.s,l.i),some (b,cM [b8 kp]))]:=by simp[ik]
theorem C9(t:List (List UInt8×Ob))(k:List UInt8)(o:Ob):iW (t++[(k,o)])=iW t++[(.str k,true,pE o)]:=by simp[iW]
theorem M3(nm:my)(i:Nat)(l:Lb)(g b:Option Nat)(ns:List (List Nat))(kp:List Nat)(h:nm[i]?=some (l,g,ns)) :
  ik (nm.modify i λp=>(p.1,b,mN p.2.2 kp))=eQ i (some (b,cM ((ns.map b8).take (mV ns kp)++b8 kp::(ns.map b8).drop (mV ns kp)))) (ik nm):=by
 apply bz;intro j;rw[fX];unfold ik;rw[aB,aB,ly]
 by_cases hj:i=j
 .subst hj;rw[h,ζ rfl];simp[mN]
 .simp[hj]
theorem S9{K:KT}(s:br)(kp:List Nat)(o:Ob)(hkp:dr kp)(hs:mj s)(hl:cC o.l)(h3:3<=o.k)(h7:o.k<=7)(hr:pN o.l=true)(hq:o.va.q.length<100000000)(hf:bw (b8 kp) s.th=none)(hk:∀b,K (.ret (.d (.int .i64 0))) (mZ (Ko s kp o b))) :
  Z1 25 [.p 0 0,.d (.str (b8 kp)),jG o] (mZ s) K:=by
 have h1:=xE kp hkp.1 hkp.2.1 hkp.2.2;have h2:=i_ o.l hl;rw[hr]at h2;have hm:=rS (b8 kp) s.th 0;rw[hf]at hm;have hc:=uj o hq;have hmf:=JB o.l s.nm;cases hi:xi o.l s.nm with
 |none=>
  rw[hi]at hmf;have hb:=qj [] kp (λ_ h=>nomatch h) hkp (by simp);have hins:=sk [] (b8 kp) 0 (aL _) (by simp);refine s25.go (keep:=false) rfl ?_
  repeat' ((conv=>whnf);first|exact zf|refine zm ?_|refine zc h1 ?_|refine zc h2 ?_|refine zB ?_ ?_|refine zt ?_|refine zu ?_|intro _)
  refine⟨_,hm,?_⟩
  repeat' ((conv=>whnf);first|exact zf|refine zm ?_|refine zc hc ?_|refine zB ?_ ?_|refine zt ?_|refine zu ?_|intro _)
  refine⟨_,hm,?_⟩
  repeat' ((conv=>whnf);first|exact zf|refine zm ?_|refine zB ?_ ?_|refine zt ?_|refine zu ?_|intro _)
  refine .inr ⟨⟨hmf,rfl⟩,?_⟩
  repeat' ((conv=>whnf);first|exact zf|refine(qi ?_)|refine da _ _ [52,10000000] ?_ rfl|refine a8 (a8 ?_)|refine zm ?_|refine(.inl ⟨_,hb,rfl,?_⟩)|refine Sat.eqs (hins) ?_|refine zB ?_ ?_|refine zt ?_|refine zu ?_|intro _)
  all_goals
   refine .inr ⟨⟨hmf,rfl,rfl⟩,λb=>?_⟩;have hk2:K (.ret (.d (.int .i64 0))) [.cells [.mp 1,.mp 2],.dm (iW s.th++[(.str (b8 kp),true,pE o)]),.ms 1 (ik s.nm++[((o.l.s,o.l.i),some (b,cM [b8 kp]))]) none none]:=by
    have:=hk b;unfold Ko CU mZ at this;simp only[hi,M4,C9]at this;exact this
   repeat' ((conv=>whnf);first|exact zf|refine zm ?_|refine zB ?_ ?_|refine zt ?_|refine zu ?_|intro _)
   exact hk2
 |some i=>
  rw[hi]at hmf;obtain⟨⟨l,g,ns⟩,hp,hpl⟩:=wH hi;simp only at hpl;subst hpl;obtain⟨hn1,hn2⟩:=hs.2 _ (aG hp);simp only at hn1 hn2;have hb:=qj ns kp hn2 hkp (by omega);have hble:=tA ns kp ns.length 0 ns.length (aY _) (aL _);have hins:=sk (ns.map b8) (b8 kp) (mV ns kp) (by rw[aI];exact hble) (by rw[aI];omega);have hent:((ik s.nm)[i]?).map (·.2)=some (some (g,cM (ns.map b8))):=by simp[ik,hp]
  refine s25.go (keep:=false) rfl ?_
  repeat' ((conv=>whnf);first|exact zf|refine zm ?_|refine zc h1 ?_|refine zc h2 ?_|refine zB ?_ ?_|refine zt ?_|refine zu ?_|intro _)
  refine⟨_,hm,?_⟩
  repeat' ((conv=>whnf);first|exact zf|refine zm ?_|refine zc hc ?_|refine zB ?_ ?_|refine zt ?_|refine zu ?_|intro _)
  refine⟨_,hm,?_⟩
  repeat' ((conv=>whnf);first|exact zf|refine zm ?_|refine zB ?_ ?_|refine zt ?_|refine zu ?_|intro _)
  refine .inl ⟨i,g,cM (ns.map b8),⟨hmf,hent⟩,?_⟩
  repeat' ((conv=>whnf);first|exact zf|refine(qi ?_)|refine da _ _ [52,10000000] ?_ rfl|refine a8 (a8 ?_)|refine zm ?_|refine(.inl ⟨_,hb,rfl,?_⟩)|refine Sat.eqs (hins) ?_|refine zB ?_ ?_|refine zt ?_|refine zu ?_|intro _)
  all_goals
   refine .inl ⟨i,⟨zS.trans hmf,λj v h=>(κ (·.1) (af h)).symm⟩,λb=>?_⟩;have hk2:K (.ret (.d (.int .i64 0))) [.cells [.mp 1,.mp 2],.dm (iW s.th++[(.str (b8 kp),true,pE o)]),.ms 1 (eQ i (some (b,cM ((ns.map b8).take (mV ns kp)++b8 kp::(ns.map b8).drop (mV ns kp)))) (eQ i none (ik s.nm))) none none]:=by
    have:=hk b;unfold Ko CU mZ at this;simp only[hi,M3 _ _ _ _ _ _ _ hp,C9]at this;rw[wA];exact this
   repeat' ((conv=>whnf);first|exact zf|refine zm ?_|refine zB ?_ ?_|refine zt ?_|refine zu ?_|intro _)
   exact hk2
structure Ev where
  l:Lb
  v:Va
def oO(e:Ev):List D:=[.str e.l.s,.str e.l.i,.int .i64 e.v.k,.int .i64 e.v.n,.str e.v.nm,.str e.v.ls,.str e.v.li]
structure En where
  o:Int
  fr:Lb
  to:Lb
  ma:Int
def lh(e:En):List D:=[.int .i64 e.o,.str e.fr.s,.str e.fr.i,.str e.to.s,.str e.to.i,.int .u8 e.ma]
structure Wo where
  id:List UInt8
  l:List Va
def oN(w:Wo):List D:=[.str w.id,.sl 5 (w.l.map b9)]
structure Ef where
  fork:List Th
  out:List Ev
  log:List En
  Ab:List Wo
  dn:Bool
def N9(e:Ef):List D:=[.sl 20 (e.fork.map eF),.sl 7 (e.out.map oO),.sl 6 (e.log.map lh),.sl 2 (e.Ab.map oN),.bool e.dn]
def Km(e:Ef):V:=.ag ((N9 e).map .d)
inductive Fx where
  |no
  |out (x:Ev)
  |log (x:En)
  |Ab (x:Wo)
  |fork (x:Th)
def Fx.ef:Fx->Bool->Ef
 |.no,d=>⟨[],[],[],[],d⟩
 |.out x,d=>⟨[],[x],[],[],d⟩
 |.log x,d=>⟨[],[],[x],[],d⟩
 |.Ab x,d=>⟨[],[],[],[x],d⟩
 |.fork x,d=>⟨[x],[],[],[],d⟩
def Fx.vs:Fx->Bool->List V
 |.no,d=>[.nl 20,.nl 7,.nl 6,.nl 2,.d (.bool d)]
 |.out x,d=>[.nl 20,.d (.sl 7 [oO x]),.nl 6,.nl 2,.d (.bool d)]
 |.log x,d=>[.nl 20,.nl 7,.d (.sl 6 [lh x]),.nl 2,.d (.bool d)]
 |.Ab x,d=>[.nl 20,.nl 7,.nl 6,.d (.sl 2 [oN x]),.d (.bool d)]
 |.fork x,d=>[.d (.sl 20 [eF x]),.nl 7,.nl 6,.nl 2,.d (.bool d)]
structure Ca where
  im:Im
  now:Int
  t:Th
  tr:Int
  o:Op
  ar:List Va
  ma:Int
def kr(c:Ca)(e:List V)(a:V)(s:Nat):List V:=
 [.d (.sl 5 (c.im.cs.map b9)),.d (.sl 3 (c.im.fs.map bc)),.p s 0,.d (.int .i64 c.now)]++(eF c.t).map .d++[.d (.int .i64 c.tr)]++e++[.d (.int .i64 c.o.c),.d (.int .i64 c.o.a),a,.d (.int .u8 c.ma)]
def fE(c:Ca)(s:br):H:=.cells (kr c [.nl 20,.nl 7,.nl 6,.nl 2,.d (.bool false)] (.d (.sl 5 (c.ar.map b9))) 1)::[.cells [.mp 2,.mp 3],.dm (iW s.th),.ms 1 (ik s.nm) none none]
def Yx(c:Ca)(d:Bool)(s:br):H:=.cells (kr c [.nl 20,.nl 7,.nl 6,.nl 2,.d (.bool d)] (.d (.sl 5 (c.ar.map b9))) 1)::[.cells [.mp 2,.mp 3],.dm (iW s.th),.ms 1 (ik s.nm) none none]
def Nc(c:Ca)(e:Fx)(d:Bool)(s:br):H:=.cells (kr c (e.vs d) (.d (.sl 5 (c.ar.map b9))) 1)::[.cells [.mp 2,.mp 3],.dm (iW s.th),.ms 1 (ik s.nm) none none]
def WH(p:Ca×Bool×br):H:=Yx p.1 p.2.1 p.2.2
def YO(c:Ca)(s:br):H:=.cells (kr c [.nl 20,.nl 7,.nl 6,.nl 2,.d (.bool false)] (.nl 5) 1)::[.cells [.mp 2,.mp 3],.dm (iW s.th),.ms 1 (ik s.nm) none none]
def Yw(p:Ca×Bool×br):H:=.cells (kr p.1 [.nl 20,.nl 7,.nl 6,.nl 2,.d (.bool p.2.1)] (.nl 5) 1)::[.cells [.mp 2,.mp 3],.dm (iW p.2.2.th),.ms 1 (ik p.2.2.nm) none none]
theorem kj{K:KT}(c:Ca)(s:br)(v:Va)(hl:c.t.c.st.length<1000000000)(hk:K (.ret (.tu [])) (fE {c with t:={c.t with c:=jb c.t.c v}} s)):Z1 267 [.p 0 0,jh v] (fE c s) K:=by
 have h1:=tg c.t.c v hl;refine sh0 Tryz.f267 ?_
 repeat' ((conv=>whnf);first|exact zf|refine zm ?_|refine zc h1 ?_|refine zB ?_ ?_|intro _)
 exact hk
theorem DL{K:KT}(c:Ca)(s:br)(l:Lb)(hl:c.t.c.st.length<1000000000)(hk:K (.ret (.tu [])) (fE {c with t:={c.t with c:=jb c.t.c ⟨2,0,[],l.s,l.i⟩}} s)):Z1 258 [.p 0 0,lO l] (fE c s) K:=by
 have h1:=λ{K:KT}=>kj (K:=K) c s ⟨2,0,[],l.s,l.i⟩ hl;refine sh0 Tryz.f258 ?_
 repeat' ((conv=>whnf);first|exact zf|refine zm ?_|refine zr0 ?_|refine(h1 ?_)|refine zB ?_ ?_|intro _)
 exact hk
def nB(c:Ca)(s:br)(v:Va)(ex:Bool):Ca×Bool×br:=
 let t:=eV c.t v ex
 if t.st≠3/\t.st≠4 then({c with t:=t},false,s) else
 match bw t.id s.th with
 |some (i,o)=>if o.k=6 then({c with t:=t},true,jw s i t.id {o with v:=v,ex:=ex,dn:=true})else({c with t:=t},true,s)
 |none=>({c with t:=t},true,s)
theorem Jq{K:KT}(c:Ca)(s:br)(v:Va)(ex:Bool)(hqa:∀i o,bw c.t.id s.th=some (i,o)->o.va.q.length<100000000)(hk:K (.ret (.tu [])) (WH (nB c s v ex))):Z1 107 [.p 0 0,jh v,.d (.bool ex)] (fE c s) K:=by
 have h1:=rT c.t v ex;have hid:(eV c.t v ex).id=c.t.id:=rfl;unfold nB at hk;generalize eV c.t v ex=t at h1 hid hk;rw[<-hid]at hqa;have hq:(fy s t.id).va.q.length<100000000:=by
  unfold fy;cases hlk:bw t.id s.th with
  |none=>simp[fo,BX]
  |some p=>exact hqa p.1 p.2 hlk
 by_cases h30:t.st=3
 .have hnot:¬(t.st≠3/\t.st≠4):=λh=>h.1 h30;simp only[hnot,ψ]at hk;have hg:=qb (K:=λout h=>out=.ret (.tu [jG (fy s t.id),.d (.bool (l9 s t.id))])/\h=mZ s) s t.id hq ⟨rfl,rfl⟩;unfold fy l9 at hg;cases hlk:bw t.id s.th with
  |none=>
   rw[hlk]at hg hk;refine sh0 Tryz.f107 ?_
   repeat' ((conv=>whnf);first|exact zf|refine da _ _ [111] ?_ rfl|refine a8 (a8 ?_)|refine zm ?_|refine zc h1 ?_|refine Sat.eqs (hg) ?_|refine zr0 ?_|refine zB ?_ ?_|refine zt ?_|refine zu ?_|intro _)
   all_goals
    exact hk
  |some p=>
   obtain⟨i,o⟩:=p;rw[hlk]at hg hk
   by_cases h6:o.k=6
   .have hset:=λ{K:KT}=>lC (K:=K) s t.id i {o with v:=v,ex:=ex,dn:=true} o hlk rfl rfl (hqa i o hlk);dsimp only at hk;rw[ζ h6]at hk;refine sh0 Tryz.f107 ?_
    repeat' ((conv=>whnf);first|exact zf|refine da _ _ [111] ?_ rfl|refine a8 (a8 ?_)|refine zm ?_|refine zc h1 ?_|refine Sat.eqs (hg) ?_|refine zr0 ?_|refine zr0 ?_|refine(hset ?_)|refine zB ?_ ?_|refine zt ?_|refine zu ?_|intro _)
    all_goals
     exact hk
   .simp only[h6,ψ]at hk;refine sh0 Tryz.f107 ?_
    repeat' ((conv=>whnf);first|exact zf|refine da _ _ [111] ?_ rfl|refine a8 (a8 ?_)|refine zm ?_|refine zc h1 ?_|refine Sat.eqs (hg) ?_|refine zr0 ?_|refine zB ?_ ?_|refine zt ?_|refine zu ?_|intro _)
    all_goals
     exact hk
 .by_cases h3:t.st=4
  .have hnot:¬(t.st≠3/\t.st≠4):=λh=>h.2 h3;simp only[hnot,ψ]at hk;have hg:=qb (K:=λout h=>out=.ret (.tu [jG (fy s t.id),.d (.bool (l9 s t.id))])/\h=mZ s) s t.id hq ⟨rfl,rfl⟩;unfold fy l9 at hg;cases hlk:bw t.id s.th with
   |none=>
    rw[hlk]at hg hk;refine sh0 Tryz.f107 ?_
    repeat' ((conv=>whnf);first|exact zf|refine da _ _ [111] ?_ rfl|refine a8 (a8 ?_)|refine zm ?_|refine zc h1 ?_|refine Sat.eqs (hg) ?_|refine zr0 ?_|refine zB ?_ ?_|refine zt ?_|refine zu ?_|intro _)
    all_goals
     exact hk
   |some p=>
    obtain⟨i,o⟩:=p;rw[hlk]at hg hk
    by_cases h6:o.k=6
    .have hset:=λ{K:KT}=>lC (K:=K) s t.id i {o with v:=v,ex:=ex,dn:=true} o hlk rfl rfl (hqa i o hlk);dsimp only at hk;rw[ζ h6]at hk;refine sh0 Tryz.f107 ?_
     repeat' ((conv=>whnf);first|exact zf|refine da _ _ [111] ?_ rfl|refine a8 (a8 ?_)|refine zm ?_|refine zc h1 ?_|refine Sat.eqs (hg) ?_|refine zr0 ?_|refine zr0 ?_|refine(hset ?_)|refine zB ?_ ?_|refine zt ?_|refine zu ?_|intro _)
     all_goals
      exact hk
    .simp only[h6,ψ]at hk;refine sh0 Tryz.f107 ?_
     repeat' ((conv=>whnf);first|exact zf|refine da _ _ [111] ?_ rfl|refine a8 (a8 ?_)|refine zm ?_|refine zc h1 ?_|refine Sat.eqs (hg) ?_|refine zr0 ?_|refine zB ?_ ?_|refine zt ?_|refine zu ?_|intro _)
     all_goals
      exact hk
  .have hyes:t.st≠3/\t.st≠4:=⟨h30,h3⟩
   rw[ζ hyes]at hk;refine sh0 Tryz.f107 ?_
   repeat' ((conv=>whnf);first|exact zf|refine zm ?_|refine zc h1 ?_|refine zB ?_ ?_|refine zt ?_|refine zu ?_|intro _)
   all_goals
    exact hk
theorem wN{K:KT}(c:Ca)(s:br)(v:Va)(ex:Bool)(hqa:∀i o,bw c.t.id s.th=some (i,o)->o.va.q.length<100000000)(hk:K (.ret (.tu [])) (Yw (nB c s v ex))):Z1 107 [.p 0 0,jh v,.d (.bool ex)] (YO c s) K:=by
 have h1:=rT c.t v ex;have hid:(eV c.t v ex).id=c.t.id:=rfl;unfold nB at hk;generalize eV c.t v ex=t at h1 hid hk;rw[<-hid]at hqa;have hq:(fy s t.id).va.q.length<100000000:=by
  unfold fy;cases hlk:bw t.id s.th with
  |none=>simp[fo,BX]
  |some p=>exact hqa p.1 p.2 hlk
 by_cases h30:t.st=3
 .have hnot:¬(t.st≠3/\t.st≠4):=λh=>h.1 h30;simp only[hnot,ψ]at hk;have hg:=qb (K:=λout h=>out=.ret (.tu [jG (fy s t.id),.d (.bool (l9 s t.id))])/\h=mZ s) s t.id hq ⟨rfl,rfl⟩;unfold fy l9 at hg;cases hlk:bw t.id s.th with
  |none=>
   rw[hlk]at hg hk;refine sh0 Tryz.f107 ?_
   repeat' ((conv=>whnf);first|exact zf|refine da _ _ [111] ?_ rfl|refine a8 (a8 ?_)|refine zm ?_|refine zc h1 ?_|refine Sat.eqs (hg) ?_|refine zr0 ?_|refine zB ?_ ?_|refine zt ?_|refine zu ?_|intro _)
   all_goals
    exact hk
  |some p=>
   obtain⟨i,o⟩:=p;rw[hlk]at hg hk
   by_cases h6:o.k=6
   .have hset:=λ{K:KT}=>lC (K:=K) s t.id i {o with v:=v,ex:=ex,dn:=true} o hlk rfl rfl (hqa i o hlk);dsimp only at hk;rw[ζ h6]at hk;refine sh0 Tryz.f107 ?_
    repeat' ((conv=>whnf);first|exact zf|refine da _ _ [111] ?_ rfl|refine a8 (a8 ?_)|refine zm ?_|refine zc h1 ?_|refine Sat.eqs (hg) ?_|refine zr0 ?_|refine zr0 ?_|refine(hset ?_)|refine zB ?_ ?_|refine zt ?_|refine zu ?_|intro _)
    all_goals
     exact hk
   .simp only[h6,ψ]at hk;refine sh0 Tryz.f107 ?_
    repeat' ((conv=>whnf);first|exact zf|refine da _ _ [111] ?_ rfl|refine a8 (a8 ?_)|refine zm ?_|refine zc h1 ?_|refine Sat.eqs (hg) ?_|refine zr0 ?_|refine zB ?_ ?_|refine zt ?_|refine zu ?_|intro _)
    all_goals
     exact hk
 .by_cases h3:t.st=4
  .have hnot:¬(t.st≠3/\t.st≠4):=λh=>h.2 h3;simp only[hnot,ψ]at hk;have hg:=qb (K:=λout h=>out=.ret (.tu [jG (fy s t.id),.d (.bool (l9 s t.id))])/\h=mZ s) s t.id hq ⟨rfl,rfl⟩;unfold fy l9 at hg;cases hlk:bw t.id s.th with
   |none=>
    rw[hlk]at hg hk;refine sh0 Tryz.f107 ?_
    repeat' ((conv=>whnf);first|exact zf|refine da _ _ [111] ?_ rfl|refine a8 (a8 ?_)|refine zm ?_|refine zc h1 ?_|refine Sat.eqs (hg) ?_|refine zr0 ?_|refine zB ?_ ?_|refine zt ?_|refine zu ?_|intro _)
    all_goals
     exact hk
   |some p=>
    obtain⟨i,o⟩:=p;rw[hlk]at hg hk
    by_cases h6:o.k=6
    .have hset:=λ{K:KT}=>lC (K:=K) s t.id i {o with v:=v,ex:=ex,dn:=true} o hlk rfl rfl (hqa i o hlk);dsimp only at hk;rw[ζ h6]at hk;refine sh0 Tryz.f107 ?_
     repeat' ((conv=>whnf);first|exact zf|refine da _ _ [111] ?_ rfl|refine a8 (a8 ?_)|refine zm ?_|refine zc h1 ?_|refine Sat.eqs (hg) ?_|refine zr0 ?_|refine zr0 ?_|refine(hset ?_)|refine zB ?_ ?_|refine zt ?_|refine zu ?_|intro _)
     all_goals
      exact hk
    .simp only[h6,ψ]at hk;refine sh0 Tryz.f107 ?_
     repeat' ((conv=>whnf);first|exact zf|refine da _ _ [111] ?_ rfl|refine a8 (a8 ?_)|refine zm ?_|refine zc h1 ?_|refine Sat.eqs (hg) ?_|refine zr0 ?_|refine zB ?_ ?_|refine zt ?_|refine zu ?_|intro _)
     all_goals
      exact hk
  .have hyes:t.st≠3/\t.st≠4:=⟨h30,h3⟩
   rw[ζ hyes]at hk;refine sh0 Tryz.f107 ?_
   repeat' ((conv=>whnf);first|exact zf|refine zm ?_|refine zc h1 ?_|refine zB ?_ ?_|refine zt ?_|refine zu ?_|intro _)
   all_goals
    exact hk
def lE(c:Ca)(s:br)(k:Co)(code:Int):Ca×Bool×br:=
 let r:=raise k code c.tr
 let c':Ca:={c with t:={c.t with c:=r.1}}
 bif r.2.k==2 then nB c' s r.2.v true else(c',false,s)
theorem MG{K:KT}(c:Ca)(s:br)(k:Co)(code:Int)(hf:k.fr.length<1000000000)(hst:k.st.length<1000000000)(hqa:∀i o,bw c.t.id s.th=some (i,o)->o.va.q.length<100000000)(hk:K (.ret (.tu [])) (WH (lE c s k code))) :
  Z1 150 [.p 0 0,gp k,.d (.int .i64 code)] (fE c s) K:=by
 have h1:=sY k code c.tr hf hst;unfold lE at hk;generalize raise k code c.tr=r at h1 hk;have h2:=λ{K:KT}=>Jq (K:=K) {c with t:={c.t with c:=r.1}} s r.2.v true hqa;cases hb:r.2.k==2 with
 |true=>
  simp only[hb,δ]at hk;refine sh0 Tryz.f150 ?_
  repeat' ((conv=>whnf);first|exact zf|refine zm ?_|refine zc h1 ?_|refine zr0 ?_|refine(h2 ?_)|refine zB ?_ ?_|refine zt ?_|refine zu ?_|intro _)
  all_goals
   exact hk
 |false=>
  simp only[hb,ε]at hk;refine sh0 Tryz.f150 ?_
  repeat' ((conv=>whnf);first|exact zf|refine zm ?_|refine zc h1 ?_|refine zB ?_ ?_|refine zt ?_|refine zu ?_|intro _)
  all_goals
   exact hk
def pj(n:Int):V:=.fc 2000288 [.d (.int .i64 n)]
theorem jr{K:KT}(n:Int)(hk:K (.eU (pj n)) []):Z1 275 [.d (.int .i64 n)] [] K:=by
 refine sh0 Tryz.f275 ?_
 repeat' ((conv=>whnf);first|exact zf|refine zm ?_|refine zB ?_ ?_|intro _)
 exact hk
theorem jA{K:KT}(hk:K (.ret (.tu [])) []):Z1 262 [.d (.int .i64 0)] [] K:=by
 refine sh0 Tryz.f262 ?_
 repeat' ((conv=>whnf);first|exact zf|refine zm ?_|refine zB ?_ ?_|refine zt ?_|refine zu ?_|intro _)
 exact hk
theorem lG{K:KT}(n:Int)(hn:n≠0)(hk:K (.eU (pj n)) []):Z1 262 [.d (.int .i64 n)] [] K:=by
 refine sh0 Tryz.f262 ?_
 repeat' ((conv=>whnf);first|exact zf|refine zm ?_|refine(jr n ?_)|refine zB ?_ ?_|refine zt ?_|refine zu ?_|intro _)
 exact hk
theorem nR{K:KT}(c:Ca)(s:br)(l:Lb)(hs:jl c.t.g)(hl:cC l)(hj:cC (dS c.t.g.cur l))(he:dY c.t.g l=0)(hk:K (.ret (.tu [])) (fE {c with t:={c.t with g:=cj c.t.g l}} s)):Z1 260 [.p 0 0,lO l] (fE c s) K:=by
 have h1:=ya c.t.g l hs hl hj;rw[he]at h1;refine sh0 Tryz.f260 ?_
 repeat' ((conv=>whnf);first|exact zf|refine zm ?_|refine zc h1 ?_|refine(jA ?_)|refine zB ?_ ?_|intro _)
 exact hk
theorem nS{K:KT}(c:Ca)(s:br)(l:Lb)(hs:jl c.t.g)(hl:cC l)(hj:cC (dS c.t.g.cur l))(he:dY c.t.g l≠0)(hk:K (.eU (pj (dY c.t.g l))) (fE c s)):Z1 260 [.p 0 0,lO l] (fE c s) K:=by
 have h1:=ya c.t.g l hs hl hj;refine sh0 Tryz.f260 ?_
 repeat' ((conv=>whnf);first|exact zf|refine zm ?_|refine zc h1 ?_|refine(lG _ he ?_)|refine zB ?_ ?_|intro _)
 exact hk
theorem Dy{K:KT}(c:Ca)(s:br)(l:Lb)(hs:jl c.t.g)(hl:cC l)(he:b5 c.t.g l=0)(hk:K (.ret (.tu [])) (fE {c with t:={c.t with g:=ur c.t.g l}} s)):Z1 270 [.p 0 0,lO l] (fE c s) K:=by
 have h1:=D_ c.t.g l hs hl;rw[he]at h1;refine sh0 Tryz.f270 ?_
 repeat' ((conv=>whnf);first|exact zf|refine zm ?_|refine zc h1 ?_|refine(jA ?_)|refine zB ?_ ?_|intro _)
 exact hk
theorem Dz{K:KT}(c:Ca)(s:br)(l:Lb)(hs:jl c.t.g)(hl:cC l)(he:b5 c.t.g l≠0)(hk:K (.eU (pj (b5 c.t.g l))) (fE c s)):Z1 270 [.p 0 0,lO l] (fE c s) K:=by
 have h1:=D_ c.t.g l hs hl;refine sh0 Tryz.f270 ?_
 repeat' ((conv=>whnf);first|exact zf|refine zm ?_|refine zc h1 ?_|refine(lG _ he ?_)|refine zB ?_ ?_|intro _)
 exact hk
theorem DF{K:KT}(c:Ca)(s:br)(p:List Nat)(n:Nat)(hp:c.t.pa=b8 p)(hm:c.t.ma=n)(h0:p≠[])(hl:p.length<24)(hs:∀n∈p,n<100)(hn:n<100)(hr:1<=c.t.ro)(hr2:c.t.ro<1000000000)(hk:K (.ret (.d (.str (b8 (p++[n]))))) (fE {c with t:=nj c.t} s)) :
  Z1 276 [.p 0 0] (fE c s) K:=by
 have h1:=se c.t p n hp hm h0 hl hs hn hr hr2;refine sh0 Tryz.f276 ?_
 repeat' ((conv=>whnf);first|exact zf|refine zm ?_|refine zc h1 ?_|refine zB ?_ ?_|refine zt ?_|refine zu ?_|intro _)
 exact hk
theorem M5{K:KT}(c:Ca)(s:br)(hr:c.t.ro<1)(hk:K (.eU (pj (-5))) (fE c s)):Z1 276 [.p 0 0] (fE c s) K:=by
 have h1:=zP c.t hr;refine sh0 Tryz.f276 ?_
 repeat' ((conv=>whnf);first|exact zf|refine zm ?_|refine zc h1 ?_|refine(jr _ ?_)|refine zB ?_ ?_|refine zt ?_|refine zu ?_|intro _)
 exact hk
def CV(c:Ca)(nm:List UInt8)(o:Ob):Ca:={c with t:={c.t with c:=jb c.t.c ⟨o.k,0,nm,o.l.s,o.l.i⟩}}
structure Fa where
  now:Int
  id:List UInt8
  l:Lb
  v:Va
structure Lk where
  now:Int
  id:List UInt8
  e:En
def fm(f:Fa):List D:=[.int .i64 f.now,.str f.id,.str f.l.s,.str f.l.i]++b9 f.v
def jT(f:Lk):List D:=[.int .i64 f.now,.str f.id]++lh f.e
structure Kn where
  im:Im
  now:Int
  th:List (List UInt8×Th)
  ord:List (List Nat)
  s:br
  fa:List Fa
  le:List Lk
def k_(l:List (List UInt8×Th)):List (D×Bool×List D):=l.map λp=>(.str p.1,true,eF p.2)
def GB(lk:Bool)(l:List (List Nat)):B:=match lk with
 |true=>.lk 1 (cM (l.map b8))
 |false=>.rows 1 (cM (l.map b8))
def FE(k:Kn)(a b c d e:Nat):B:=.cells [.d (.sl 5 (k.im.cs.map b9)),.d (.sl 3 (k.im.fs.map bc)),.d (.int .i64 k.now),.mp a,.os b,.p c 0,.os d,.os e]
def fU(lk:Bool)(k:Kn):H:=[FE k 1 2 3 6 7,.dm (k_ k.th),GB lk k.ord,.cells [.mp 4,.mp 5],.dm (iW k.s.th),.ms 1 (ik k.s.nm) none none,.rows 9 (k.fa.map fm),.rows 8 (k.le.map jT)]
def dy(key:List UInt8):List (List UInt8×Th)->Option (Nat×Th)
 |[]=>none
 |p::r=>if key=p.1 then some (0,p.2)else(dy key r).map λx=>(x.1+1,x.2)
theorem pg(key:List UInt8):∀(l:List (List UInt8×Th))(i:Nat),nI [2] [.d (.str key)] (fC (k_ l)) i=some ((dy key l).map λx=>(x.1+i,eW x.2))
 |[],i=>rfl
 |p::r,i=>by
  have ih:=pg key r (i+1);show(bif true then(match some ((key==p.1)&&true) with
   |some b=>bif b then some (some (i,eW p.2))else nI [2] [.d (.str key)] (fC (k_ r)) (i+1)
   |none=>none)else none)=_
  rw[dy]
  by_cases h:key=p.1
  .rw[ζ h,h];simp
  .rw[η h,ih];have:(key==p.1)=false:=by simpa using h
   rw[this];simp only[δ,ε,iV,Option.map_map];congr 1;congr 1
   funext x
   simp only[jK];rw[show x.1+1+i=x.1+(i+1)by omega]
theorem G0(l:List (List UInt8×Th))(i:Nat)(key:List UInt8)(t:Th):(k_ l).set i (.str key,true,eF t)=k_ (l.set i (key,t)):=by
 simp[k_]
theorem G3(l:List (List UInt8×Th))(key:List UInt8)(t:Th):k_ l++[(.str key,true,eF t)]=k_ (l++[(key,t)]):=by simp[k_]
def rG(l:List (List UInt8×Th))(t:Th):List (List UInt8×Th):=match dy t.id l with
 |some x=>l.set x.1 (t.id,t)
 |none=>l++[(t.id,t)]
def xL(k:Kn)(t:Th):Kn:={k with th:=rG k.th t}
theorem zE{K:KT}(lk:Bool)(k:Kn)(t:Th)(hk:K (.ret (.tu [])) (fU lk (xL k t))):Z1 53 [.p 0 0,eW t] (fU lk k) K:=by
 have hm:=pg t.id k.th 0;unfold xL rG fU at hk;cases h:dy t.id k.th with
 |none=>
  rw[h]at hm hk;simp only[<-G3]at hk;cases lk
  all_goals
   refine sh0 Tryz.f53 ?_
   repeat' ((conv=>whnf);first|exact zf|refine zm ?_|refine zB ?_ ?_|intro _)
   refine⟨_,hm,?_⟩
   repeat' ((conv=>whnf);first|exact zf|refine zm ?_|refine zB ?_ ?_|intro _)
   exact hk
 |some p=>
  rw[h]at hm hk;simp only[<-G0]at hk;cases lk
  all_goals
   refine sh0 Tryz.f53 ?_
   repeat' ((conv=>whnf);first|exact zf|refine zm ?_|refine zB ?_ ?_|intro _)
   refine⟨_,hm,?_⟩
   repeat' ((conv=>whnf);first|exact zf|refine zm ?_|refine zB ?_ ?_|intro _)
   exact hk
theorem VZ(s:Gs)(l:Lb)(p:Int)(hs:jl s)(hl:cC l):Z0 314 [.e (sK s) 0,.e (sJ l) 0,.e [.int .u8 p] 0] (.d (.bool (fk s.cur l p))):=by
 have h:=vt s.cur l p hs.1 hl;refine sh0 Tryz.f314 ?_
 repeat' ((conv=>whnf);first|exact zf|refine zm ?_|refine zc h ?_|refine zB ?_ ?_|intro _)
theorem VY(s:Gs)(l:Lb)(p:Int)(hs:jl s)(hl:cC l):Z0 316 [.e (sJ l) 0,.e (sK s) 0,.e [.int .u8 p] 0] (.d (.bool (fk l s.gT p))):=by
 have h:=vt l s.gT p hl hs.2;refine sh0 Tryz.f316 ?_
 repeat' ((conv=>whnf);first|exact zf|refine zm ?_|refine zc h ?_|refine zB ?_ ?_|intro _)
def XB(s:Gs)(l:Lb)(p:Int):Mu:=⟨314,[.pt (sK s) 0,.pt (sJ l) 0,.pt [.int .u8 p] 0],fk s.cur l p,-3⟩
def XA(s:Gs)(l:Lb)(p:Int):Mu:=⟨316,[.pt (sJ l) 0,.pt (sK s) 0,.pt [.int .u8 p] 0],fk l s.gT p,-4⟩
def lq(s:Gs)(l:Lb)(p:Int):Int:=firstM [XB s l p,v_ s l]
def lX(s:Gs)(l:Lb)(p:Int):Int:=firstM [XA s l p,zQ s l]
def wR(s:Gs)(l:Lb)(p:Int):Gs:=bif lq s l p==0 then⟨gV l,s.gT⟩else s
def wD(s:Gs)(l:Lb)(p:Int):Gs:=bif lX s l p==0 then⟨s.cur,gV l⟩else s
def ug(s:Gs)(l:Lb)(p:Int):Bool:=bif lq s l p==0 then !bH s.cur l else false
def uI(s:Gs)(l:Lb)(p:Int):Bool:=bif lX s l p==0 then !bH l s.gT else false
def V_(s:Gs)(e:Int)(b:Bool):V:=.tu [GC s,.d (.int .i64 e),.d (.bool b)]
theorem NL(s:Gs)(l:Lb)(p:Int)(hs:jl s)(hl:cC l):Z0 281 [GC s,lO l,.d (.int .u8 p)] (V_ (wR s l p) (lq s l p) (ug s l p)):=by
 have h2:=mU s l;have h3:=oK [XB s l p,v_ s l] (by
  intro m hm;simp only[ah,eN,or_false]at hm;rcases hm with rfl|rfl
  .exact⟨.inr ⟨_,_,_,.inl rfl,rfl⟩,VZ s l p hs hl⟩
  .exact xW s l hs hl)
 have h4:=j_ l hl;have h5:=gi s.cur l hs.1 hl;have he:firstM [XB s l p,v_ s l]=lq s l p:=rfl;rw[he]at h3;unfold wR ug;refine sh0 Tryz.f281 ?_
 repeat' ((conv=>whnf);first|exact zf|refine(jM [0,1,2] ?_)|refine zm ?_|refine zc h2 ?_|refine zc h3 ?_|refine zB ?_ ?_|intro _)
 all_goals
  cases hb:lq s l p==0 with
  |true=>
   have hz:=eq_of_beq hb
   repeat' ((conv=>whnf);first|exact zf|refine zm ?_|refine zc h4 ?_|refine zc h5 ?_|refine zB ?_ ?_|refine zt ?_|refine zu ?_|intro _)
   all_goals
    show Out.ret (V_ ⟨gV l,s.gT⟩ 0 (!bH s.cur l))=_;rw[hz];rfl
  |false=>
   repeat' ((conv=>whnf);first|exact zf|refine zm ?_|refine zB ?_ ?_|refine zt ?_|refine zu ?_|intro _)
theorem Mf(s:Gs)(l:Lb)(p:Int)(hs:jl s)(hl:cC l):Z0 283 [GC s,lO l,.d (.int .u8 p)] (V_ (wD s l p) (lX s l p) (uI s l p)):=by
 have h2:=vC s l;have h3:=oK [XA s l p,zQ s l] (by
  intro m hm;simp only[ah,eN,or_false]at hm;rcases hm with rfl|rfl
  .exact⟨.inr ⟨_,_,_,.inr rfl,rfl⟩,VY s l p hs hl⟩
  .exact B2 s l hs hl)
 have h4:=j_ l hl;have h5:=gi l s.gT hl hs.2;have he:firstM [XA s l p,zQ s l]=lX s l p:=rfl;rw[he]at h3;unfold wD uI;refine sh0 Tryz.f283 ?_
 repeat' ((conv=>whnf);first|exact zf|refine(jM [0,1,2] ?_)|refine zm ?_|refine zc h2 ?_|refine zc h3 ?_|refine zB ?_ ?_|intro _)
 all_goals
  cases hb:lX s l p==0 with
  |true=>
   have hz:=eq_of_beq hb
   repeat' ((conv=>whnf);first|exact zf|refine zm ?_|refine zc h4 ?_|refine zc h5 ?_|refine zB ?_ ?_|refine zt ?_|refine zu ?_|intro _)
   all_goals
    show Out.ret (V_ ⟨s.cur,gV l⟩ 0 (!bH l s.gT))=_;rw[hz];rfl
  |false=>
   repeat' ((conv=>whnf);first|exact zf|refine zm ?_|refine zB ?_ ?_|refine zt ?_|refine zu ?_|intro _)
theorem AK{K:KT}(l:List (List D))(hl:l.length<100000000)(hk:K (.ret (.os 0)) [.rows 7 l]):Z1 85 [.d (.sl 7 l)] [] K:=by
 refine si0 Tryz.f85 ?_;cases l with
 |nil=>
  repeat' ((conv=>whnf);first|exact zf|refine zm ?_|refine zB ?_ ?_|refine And.intro ?_ ?_|intro _)
  all_goals exact hk
 |cons r l=>
  repeat' ((conv=>whnf);first|exact zf|refine zm ?_|refine zB ?_ ?_|intro _)
  all_goals exact hk
theorem LP(l:List (List D))(i:List UInt8)(b:Bool)(k n:Int)(x y z:List UInt8)(hl:l.length<100000000):Z0 310 [.d (.sl 7 l),.ag [.d (.str i),.d (.bool b),.d (.int .i64 k),.d (.int .i64 n),.d (.str x),.d (.str y),.d (.str z)]] (.d (.sl 7 (l++[[.str i,.bool b,.int .i64 k,.int .i64 n,.str x,.str y,.str z]]))):=by
 have hc:=λ{K:KT}=>AK (K:=K) l hl;refine sh0 Tryz.f310 ?_
 repeat' ((conv=>whnf);first|exact zf|refine(a8 ?_)|refine zm ?_|refine(hc ?_)|refine(And.intro ⟨rfl,rfl,by simp only[aZ,ak];omega,by simp only[aZ,ak];omega⟩ ?_)|refine zB ?_ ?_|refine And.intro ?_ ?_|intro _)
theorem Qu(i:List UInt8)(b:Bool)(k n:Int)(x y z:List UInt8):Z0 311 [.ag [.d (.str i),.d (.bool b),.d (.int .i64 k),.d (.int .i64 n),.d (.str x),.d (.str y),.d (.str z)]] (.d (.bool b)):=by
 refine sh0 Tryz.f311 ?_
 repeat' ((conv=>whnf);first|exact zf|refine zm ?_|refine zB ?_ ?_|intro _)
theorem Le(i:List UInt8)(b:Bool)(k n:Int)(x y z:List UInt8):Z0 312 [.ag [.d (.str i),.d (.bool b),.d (.int .i64 k),.d (.int .i64 n),.d (.str x),.d (.str y),.d (.str z)]] (.d (.bool (!b))):=by
 refine sh0 Tryz.f312 ?_
 repeat' ((conv=>whnf);first|exact zf|refine zm ?_|refine zB ?_ ?_|intro _)
structure Ws where
  i:List UInt8
  b:Bool
  k:Int
  n:Int
  x:List UInt8
  y:List UInt8
  z:List UInt8
def Ws.row(w:Ws):List D:=[.str w.i,.bool w.b,.int .i64 w.k,.int .i64 w.n,.str w.x,.str w.y,.str w.z]
def kG(p:Bool):List Ws->Nat
 |[]=>0
 |w::r=>bif w.b==p then 0 else kG p r+1
def kq(p:Bool)(l:List Ws):Int:=if kG p l<l.length then kG p l else -1
theorem jR{p:Bool}:∀{l:List Ws}{i:Nat},(∀s∈l.take i,(s.b==p)=false)->i<=l.length->kG p l=i+kG p (l.drop i)
 |l,0,_,_=>by simp
 |[],i+1,_,h=>by simp at h
 |s::l,i+1,h,hi=>by
  rw[kG,h s (by simp),ε,jJ,jR (i:=i) (λx hx=>h x (by rw[dX];exact bU _ hx)) (by simpa using hi)];omega
theorem Jp(p:Bool)(l:List Ws):Z0 164 [.d (.sl 7 (l.map Ws.row)),.d (.fn (bif p then 311 else 312))] (.d (.int .i64 (kq p l))):=by
 have hl:(l.map Ws.row).length=l.length:=aI _;cases p
 all_goals (
  refine sh0 Tryz.f164 ?_
  )
 .skip
  repeat' ((conv=>whnf);first|exact zf|refine zm ?_|refine zB ?_ ?_|intro _)
  conv=>whnf
  refine bA [(1,.d (.fn 312)),(7,.d (.sl 7 (l.map Ws.row))),(8,.d (.int .i64 (l.map Ws.row).length))] (λi:Nat=>i<=l.length/\∀s∈l.take i,(s.b==false)=false) (λi=>[(9,.d (.int .i64 i))]) (λ_=>[]) (λi=>l.length-i) 0 ⟨aY _,λ_ h=>nomatch h⟩ ?_ ?_ ?_ (λi hi=>?_)
  .exact zzz
  .exact zzz
  .exact rfl
  repeat' ((conv=>whnf);first|exact zf|refine zm ?_|refine zB ?_ ?_|intro _)
  refine aU (λhlt=>?_) (λhge=>?_)
  .have hlt:i<l.length:=by rw[<-hl];simpa using hlt
   obtain⟨⟨a1,a2,a3,a4,a5,a6,a7⟩,hm⟩:∃m,l[i]?=some m:=⟨_,aA hlt⟩
   have hs:=Le a1 a2 a3 a4 a5 a6 a7;have htk:l.take (i+1)=l.take i++[⟨a1,a2,a3,a4,a5,a6,a7⟩]:=by rw[bV,hm];rfl
   have hdr:l.drop i=⟨a1,a2,a3,a4,a5,a6,a7⟩::l.drop (i+1):=by
    rw[bC hlt];rw[aA hlt]at hm;rw[af hm]
   have hk:=jR hi.2 hi.1;rw[hdr,kG]at hk;have hrow:(l.map Ws.row)[i]?=some [D.str a1,.bool a2,.int .i64 a3,.int .i64 a4,.str a5,.str a6,.str a7]:=by rw[aB,hm];rfl
   cases a2 with
   |false=>
    repeat' ((conv=>whnf);first|exact zf|refine zm ?_|refine⟨_,⟨by omega,hrow,rfl⟩,?_⟩|refine zc hs ?_|refine zB ?_ ?_|intro _)
    refine cD (κ (λx=>V.d (D.int .i64 x)) ?_);unfold kq;rw[hk,ζ (by simp;omega)];simp
   |true=>
    repeat' ((conv=>whnf);first|exact zf|refine zm ?_|refine⟨_,⟨by omega,hrow,rfl⟩,?_⟩|refine zc hs ?_|refine zB ?_ ?_|intro _)
    refine⟨i+1,⟨hlt,?_⟩,aN hlt (aQ i),zzz,zzz,rfl⟩;rw[htk];intro x hx;exact(aT.1 hx).elim (hi.2 x) λh=>by rw[aF.1 h];rfl
  .have hge:i=l.length:=by
    have:¬i<l.length:=by rw[<-hl];simpa using hge
    omega
   have hk:=jR hi.2 hi.1;rw[hge,du]at hk;have:kq false l = -1:=by unfold kq;rw[hk,η (by simp[kG])]
   rw[this]
   repeat' ((conv=>whnf);first|exact zf|refine zm ?_|refine zB ?_ ?_|intro _)
 .skip
  repeat' ((conv=>whnf);first|exact zf|refine zm ?_|refine zB ?_ ?_|intro _)
  conv=>whnf
  refine bA [(1,.d (.fn 311)),(7,.d (.sl 7 (l.map Ws.row))),(8,.d (.int .i64 (l.map Ws.row).length))] (λi:Nat=>i<=l.length/\∀s∈l.take i,(s.b==true)=false) (λi=>[(9,.d (.int .i64 i))]) (λ_=>[]) (λi=>l.length-i) 0 ⟨aY _,λ_ h=>nomatch h⟩ ?_ ?_ ?_ (λi hi=>?_)
  .exact zzz
  .exact zzz
  .exact rfl
  repeat' ((conv=>whnf);first|exact zf|refine zm ?_|refine zB ?_ ?_|intro _)
  refine aU (λhlt=>?_) (λhge=>?_)
  .have hlt:i<l.length:=by rw[<-hl];simpa using hlt
   obtain⟨⟨a1,a2,a3,a4,a5,a6,a7⟩,hm⟩:∃m,l[i]?=some m:=⟨_,aA hlt⟩
   have hs:=Qu a1 a2 a3 a4 a5 a6 a7;have htk:l.take (i+1)=l.take i++[⟨a1,a2,a3,a4,a5,a6,a7⟩]:=by rw[bV,hm];rfl
   have hdr:l.drop i=⟨a1,a2,a3,a4,a5,a6,a7⟩::l.drop (i+1):=by
    rw[bC hlt];rw[aA hlt]at hm;rw[af hm]
   have hk:=jR hi.2 hi.1;rw[hdr,kG]at hk;have hrow:(l.map Ws.row)[i]?=some [D.str a1,.bool a2,.int .i64 a3,.int .i64 a4,.str a5,.str a6,.str a7]:=by rw[aB,hm];rfl
   cases a2 with
   |true=>
    repeat' ((conv=>whnf);first|exact zf|refine zm ?_|refine⟨_,⟨by omega,hrow,rfl⟩,?_⟩|refine zc hs ?_|refine zB ?_ ?_|intro _)
    refine cD (κ (λx=>V.d (D.int .i64 x)) ?_);unfold kq;rw[hk,ζ (by simp;omega)];simp
   |false=>
    repeat' ((conv=>whnf);first|exact zf|refine zm ?_|refine⟨_,⟨by omega,hrow,rfl⟩,?_⟩|refine zc hs ?_|refine zB ?_ ?_|intro _)
    refine⟨i+1,⟨hlt,?_⟩,aN hlt (aQ i),zzz,zzz,rfl⟩;rw[htk];intro x hx;exact(aT.1 hx).elim (hi.2 x) λh=>by rw[aF.1 h];rfl
  .have hge:i=l.length:=by
    have:¬i<l.length:=by rw[<-hl];simpa using hge
    omega
   have hk:=jR hi.2 hi.1;rw[hge,du]at hk;have:kq true l = -1:=by unfold kq;rw[hk,η (by simp[kG])]
   rw[this]
   repeat' ((conv=>whnf);first|exact zf|refine zm ?_|refine zB ?_ ?_|intro _)
end Go.Proofs.YtmigecldjbgneaaGreatDoor