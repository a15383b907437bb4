/- Lemmas. Conditions: none. -/
import Derived.Test.YtmigecldjbgneaaGreatDoorQKAW
set_option maxHeartbeats 4000000
namespace Go.Proofs.YtmigecldjbgneaaGreatDoor
open Go.Vx
set_option maxRecDepth 100000
structure Sc where
  nm:List UInt8
  l:Lb
  un:Int
  fr:Int
  he:Int
  tr:Int
  g:Gs
  pa:List UInt8
  ma:Int
  ro:Int
def fI(s:Sc):List D:=[.str s.nm,.str s.l.s,.str s.l.i,.int .i64 s.un,.int .i64 s.fr,.int .i64 s.he,.int .i64 s.tr,.str s.g.cur.s,.str s.g.cur.i,.str s.g.gT.s,.str s.g.gT.i,.str s.pa,.int .i64 s.ma,.int .i64 s.ro]
def Xo(s:Sc):V:=.ag ((fI s).map .d)
structure Th where
  id:List UInt8
  pa:List UInt8
  g:Gs
  c:Co
  sc:List Sc
  ma:Int
  ro:Int
  st:Int
  on:List UInt8
  v:Va
  ex:Bool
def eF(t:Th):List D:=[.str t.id,.str t.pa,.str t.g.cur.s,.str t.g.cur.i,.str t.g.gT.s,.str t.g.gT.i,.sl 5 (t.c.fr.map bP),.sl 5 (t.c.st.map b9),.sl 3 (t.c.tr.map eJ),.sl 14 (t.sc.map fI),.int .i64 t.ma,.int .i64 t.ro,.int .i64 t.st,.str t.on,
 .int .i64 t.v.k,.int .i64 t.v.n,.str t.v.nm,.str t.v.ls,.str t.v.li,.bool t.ex]
def eW(t:Th):V:=.ag ((eF t).map .d)
def ck:Va:=⟨0,0,[],[],[]⟩
def kW:Lb:=⟨[],[]⟩
def YA:Gs:=⟨kW,kW⟩
def M1:Sc:=⟨[],kW,0,0,0,0,YA,[],0,0⟩
def DD(id:List UInt8)(g:Gs)(c:Co)(ro:Int):Th:=⟨id,id,g,c,[],0,ro,0,[],ck,false⟩
theorem P3(id:List UInt8)(g:Gs)(c:Co)(ro:Int):Z0 55 [.d (.str id),GC g,gp c,.d (.int .i64 ro)] (eW (DD id g c ro)):=by
 refine sh0 Tryz.f55 ?_
 repeat' ((conv=>whnf);first|exact zf|refine zm ?_|refine zB ?_ ?_|intro _)
def EG(t:Th):V:=.ag [.d (.sl 14 (t.sc.map fI)),.d (.str t.g.cur.s),.d (.str t.g.cur.i)]
theorem Ct(t:Th):Z0 101 [eW t] (EG t):=by
 refine sh0 Tryz.f101 ?_
 repeat' ((conv=>whnf);first|exact zf|refine zm ?_|refine zB ?_ ?_|intro _)
def cZ(t:Th):Sc:=t.sc.getLast?.getD M1
theorem JU(t:Th):Z0 140 [EG t] (.tu [Xo (cZ t),.d (.bool (!t.sc.isEmpty))]):=by
 have hl:(t.sc.map fI).length=t.sc.length:=aI _;cases hs:t.sc.getLast? with
 |none=>
  have h0:t.sc=[]:=List.getLast?_eq_none_iff.1 hs;unfold cZ EG;rw[hs,h0];refine sh0 Tryz.f140 ?_
  repeat' ((conv=>whnf);first|exact zf|refine zm ?_|refine zB ?_ ?_|refine zt ?_|refine zu ?_|intro _)
 |some s=>
  have hne:t.sc≠[]:=by intro h;rw[h]at hs;cases hs
  have hpos:0<t.sc.length:=jH.2 hne;have hem:t.sc.isEmpty=false:=by rw[List.isEmpty_eq_false_iff];exact hne
  have hget:(t.sc.map fI)[t.sc.length-1]?=some (fI s):=by
   rw[aB,<-dU,hs];rfl
  unfold cZ;rw[hs,hem];refine sh0 Tryz.f140 ?_;have hn:(((t.sc.map fI).length:Int)-1).toNat=t.sc.length-1:=by omega
  repeat' ((conv=>whnf);first|exact zf|refine zm ?_|refine zi0 ?_|refine⟨fI s,⟨by omega,by rw[hn];exact hget,rfl⟩,?_⟩|refine zB ?_ ?_|refine zt ?_|refine zu ?_|intro _)
theorem D8(t:Th):Z0 105 [eW t] (.tu [.d (.int .i64 (cZ t).fr),.d (.int .i64 (cZ t).tr)]):=by
 have h1:=Ct t;have h2:=JU t;refine sh0 Tryz.f105 ?_
 repeat' ((conv=>whnf);first|exact zf|refine zm ?_|refine zc h1 ?_|refine zc h2 ?_|refine zB ?_ ?_|intro _)
def lj(now:Int):List Sc->Nat
 |[]=>0
 |s::r=>bif decide (s.un<=now)then 0 else lj now r+1
def F0(t:Th)(now:Int):Int:=if lj now t.sc<t.sc.length then lj now t.sc else -1
theorem rV{now:Int}:∀{l:List Sc}{i:Nat},(∀s∈l.take i,¬s.un<=now)->i<=l.length->lj now l=i+lj now (l.drop i)
 |l,0,_,_=>by simp
 |[],i+1,_,h=>by simp at h
 |s::l,i+1,h,hi=>by
  rw[lj,τ (h s (by simp)),ε,jJ,rV (i:=i) (λx hx=>h x (by rw[dX];exact bU _ hx)) (by simpa using hi)];omega
theorem VO(t:Th)(now:Int):Z0 102 [EG t,.d (.int .i64 now)] (.d (.int .i64 (F0 t now))):=by
 have hl:(t.sc.map fI).length=t.sc.length:=aI _;refine sh0 Tryz.f102 ?_
 repeat' ((conv=>whnf);first|exact zf|refine zm ?_|refine zB ?_ ?_|intro _)
 conv=>whnf
 refine bA [(1,.d (.int .i64 now)),(8,.d (.sl 14 (t.sc.map fI))),(9,.d (.int .i64 (t.sc.map fI).length))] (λi:Nat=>i<=t.sc.length/\∀s∈t.sc.take i,¬s.un<=now) (λi=>[(10,.d (.int .i64 i))]) (λ_=>[]) (λi=>t.sc.length-i) 0 ⟨aY _,λ_ h=>nomatch h⟩ ?_ ?_ ?_ (λi hi=>?_)
 .exact zzz
 .exact zzz
 .exact rfl
 repeat' ((conv=>whnf);first|exact zf|refine zm ?_|refine zB ?_ ?_|intro _)
 refine aU (λhlt=>?_) (λhge=>?_)
 .have hlt:i<t.sc.length:=by rw[<-hl];simpa using hlt
  obtain⟨s,hs⟩:∃s,t.sc[i]?=some s:=⟨_,aA hlt⟩
  have htk:t.sc.take (i+1)=t.sc.take i++[s]:=by rw[bV,hs];rfl
  have hdr:t.sc.drop i=s::t.sc.drop (i+1):=by
   rw[bC hlt];rw[aA hlt]at hs;rw[af hs]
  have hk:=rV hi.2 hi.1;rw[hdr,lj]at hk
  repeat' ((conv=>whnf);first|exact zf|refine zm ?_|refine zB ?_ ?_|intro _)
  refine⟨fI s,⟨by omega,by simp[hs],rfl⟩,?_⟩
  repeat' ((conv=>whnf);first|exact zf|refine zm ?_|refine zB ?_ ?_|intro _)
  refine aU (λhy=>?_) (λhn=>?_)
  .skip
   repeat' ((conv=>whnf);first|exact zf|refine zm ?_|refine zB ?_ ?_|intro _)
   refine cD (κ (λx=>V.d (D.int .i64 x)) ?_);rw[show decide (s.un<=now)=true from hy,δ]at hk;unfold F0;rw[hk,ζ (by omega)];simp
  .skip
   repeat' ((conv=>whnf);first|exact zf|refine zm ?_|refine zB ?_ ?_|intro _)
   refine⟨i+1,⟨hlt,?_⟩,aN hlt (aQ i),zzz,zzz,rfl⟩;rw[htk];intro x hx;exact(aT.1 hx).elim (hi.2 x) λh=>by rw[aF.1 h];exact ι hn
 .have hge:i=t.sc.length:=by
   have:¬i<t.sc.length:=by rw[<-hl];simpa using hge
   omega
  have hk:=rV hi.2 hi.1;rw[hge,du]at hk;have:F0 t now = -1:=by unfold F0;rw[hk,η (by simp[lj])]
  rw[this]
  repeat' ((conv=>whnf);first|exact zf|refine zm ?_|refine zB ?_ ?_|intro _)
theorem VP(t:Th)(now:Int):Z0 61 [eW t,.d (.int .i64 now)] (.d (.int .i64 (F0 t now))):=by
 have h1:=Ct t;have h2:=VO t now;refine sh0 Tryz.f61 ?_
 repeat' ((conv=>whnf);first|exact zf|refine zm ?_|refine zc h1 ?_|refine zc h2 ?_|refine zB ?_ ?_|intro _)
def eV(t:Th)(v:Va)(ex:Bool):Th:={t with st:=bif !t.sc.isEmpty then 2 else bif ex then 4 else 3,v:=v,ex:=ex,on:=[]}
theorem rT(t:Th)(v:Va)(ex:Bool):Z0 146 [eW t,jh v,.d (.bool ex)] (eW (eV t v ex)):=by
 have hl:(t.sc.map fI).length=t.sc.length:=aI _;unfold eV;cases he:t.sc.isEmpty with
 |true=>
  have h0:t.sc=[]:=lM.1 he;cases ex<;>refine sh0 Tryz.f146 ?_
  .skip
   repeat' ((conv=>whnf);first|exact zf|refine zm ?_|refine zB ?_ ?_|refine zt ?_|refine zu ?_|intro _)
  .skip
   repeat' ((conv=>whnf);first|exact zf|refine zm ?_|refine zB ?_ ?_|refine zt ?_|refine zu ?_|intro _)
 |false=>
  have hpos:0<t.sc.length:=jH.2 (by simpa using he);refine sh0 Tryz.f146 ?_
  repeat' ((conv=>whnf);first|exact zf|refine zm ?_|refine zB ?_ ?_|refine zt ?_|refine zu ?_|intro _)
structure Wt where
  id:List UInt8
  put:Bool
  v:Va
def ek(x:Wt):List D:=[.str x.id,.bool x.put,.int .i64 x.v.k,.int .i64 x.v.n,.str x.v.nm,.str x.v.ls,.str x.v.li]
structure Vr where
  full:Bool
  v:Va
  q:List Wt
structure Ob where
  k:Int
  l:Lb
  v:Va
  ex:Bool
  dn:Bool
  va:Vr
  fu:Int
  ma:Int
def pE(o:Ob):List D:=[.int .i64 o.k,.str o.l.s,.str o.l.i,.int .i64 o.v.k,.int .i64 o.v.n,.str o.v.nm,.str o.v.ls,.str o.v.li,.bool o.ex,.bool o.dn,.bool o.va.full,
 .int .i64 o.va.v.k,.int .i64 o.va.v.n,.str o.va.v.nm,.str o.va.v.ls,.str o.va.v.li,.sl 7 (o.va.q.map ek),.int .i64 o.fu,.int .u8 o.ma]
def jG(o:Ob):V:=.ag ((pE o).map .d)
def BX:Vr:=⟨false,ck,[]⟩
def fo:Ob:=⟨0,kW,ck,false,false,BX,0,0⟩
def nj(t:Th):Th:={t with ma:=t.ma+1,ro:=t.ro-1}
theorem se(t:Th)(l:List Nat)(n:Nat)(hp:t.pa=b8 l)(hm:t.ma=n)(h0:l≠[])(hl:l.length<24)(hs:∀n∈l,n<100)(hn:n<100)(hr:1<=t.ro)(hr2:t.ro<1000000000) :
  Z0 313 [eW t] (.tu [eW (nj t),.d (.str (b8 (l++[n]))),.d (.bool true)]):=by
 have h1:=K1 l n h0 hl hs hn;rw[<-hp,<-hm]at h1;refine sh0 Tryz.f313 ?_
 repeat' ((conv=>whnf);first|exact zf|refine zm ?_|refine zc h1 ?_|refine zi0 ?_|refine zB ?_ ?_|refine zt ?_|refine zu ?_|intro _)
theorem zP(t:Th)(hr:t.ro<1):Z0 313 [eW t] (.tu [eW t,.d (.str []),.d (.bool false)]):=by
 refine sh0 Tryz.f313 ?_
 repeat' ((conv=>whnf);first|exact zf|refine zm ?_|refine zB ?_ ?_|refine zt ?_|refine zu ?_|intro _)
theorem SS(l:List (List D)):Z0 151 [.d (.sl 5 l)] (.cl 5 l):=by
 refine sh0 Tryz.f151 ?_
 repeat' ((conv=>whnf);first|exact zf|refine zm ?_|refine zB ?_ ?_|intro _)
 exact cD (κ (V.cl 5) (by show List.drop 0 (List.take ((l.length:Int)).toNat l)=l;simp))
theorem K0(l:List (List D)):Z0 137 [.d (.sl 14 l)] (.cl 14 l):=by
 refine sh0 Tryz.f137 ?_
 repeat' ((conv=>whnf);first|exact zf|refine zm ?_|refine zB ?_ ?_|intro _)
 exact cD (κ (V.cl 14) (by show List.drop 0 (List.take ((l.length:Int)).toNat l)=l;simp))
def ic(t:Th)(l:List Va):Th:={t with st:=0,on:=[],c:=⟨t.c.fr,t.c.st++l,t.c.tr⟩}
theorem Ah(t:Th)(l:List Va)(hl:l.length<1000000000)(hs:t.c.st.length<1000000000):Z0 109 [eW t,.d (.sl 5 (l.map b9))] (eW (ic t l)):=by
 have h1:=SS (t.c.st.map b9);have e1:(t.c.st.map b9).length=t.c.st.length:=aI _;have e2:(l.map b9).length=l.length:=aI _;have e3:(t.c.st++l).map b9=t.c.st.map b9++l.map b9:=bt;unfold ic eW eF;simp only[e3];refine sh0 Tryz.f109 ?_
 repeat' ((conv=>whnf);first|exact zf|refine zm ?_|refine zc h1 ?_|refine zB ?_ ?_|intro _)
def jW(t:Th)(k:Nat):Va×Bool:=
 bif !(t.st==2)||!((k:Int)==(t.sc.length:Int)-1)then(num (-7),true) else
 bif !bH t.g.cur ((t.sc[k]?).getD M1).l then(num (-3),true)else(t.v,t.ex)
theorem Fi(t:Th)(k:Nat)(hk:k<t.sc.length)(hc:cC t.g.cur)(hl:cC ((t.sc[k]?).getD M1).l)(hn:t.sc.length<1000000000) :
  Z0 136 [eW t,.d (.int .i64 k)] (.tu [jh (jW t k).1,.d (.bool (jW t k).2)]):=by
 have e1:(t.sc.map fI).length=t.sc.length:=aI _;obtain⟨s,hs⟩:∃s,t.sc[k]?=some s:=⟨_,aA hk⟩
 rw[hs,cR]at hl;have hf:=gi t.g.cur s.l hc hl;unfold jW;rw[hs,cR];cases h1:t.st==2 with
 |false=>
  refine sh0 Tryz.f136 ?_
  repeat' ((conv=>whnf);first|exact zf|refine zm ?_|refine zB ?_ ?_|refine zt ?_|refine zu ?_|intro _)
 |true=>
  cases h2:(k:Int)==(t.sc.length:Int)-1 with
  |false=>
   refine sh0 Tryz.f136 ?_
   repeat' ((conv=>whnf);first|exact zf|refine zm ?_|refine zB ?_ ?_|refine zt ?_|refine zu ?_|intro _)
  |true=>
   cases h3:bH t.g.cur s.l with
   |false=>
    rw[h3]at hf;refine sh0 Tryz.f136 ?_
    repeat' ((conv=>whnf);first|exact zf|refine zm ?_|refine zc hf ?_|refine⟨fI s,⟨by omega,by simp[hs],rfl⟩,?_⟩|refine zB ?_ ?_|refine zt ?_|refine zu ?_|intro _)
   |true=>
    rw[h3]at hf;refine sh0 Tryz.f136 ?_
    repeat' ((conv=>whnf);first|exact zf|refine zm ?_|refine zc hf ?_|refine⟨fI s,⟨by omega,by simp[hs],rfl⟩,?_⟩|refine zB ?_ ?_|refine zt ?_|refine zu ?_|intro _)
theorem VV(c:Co)(f h t:Int):Z0 138 [gp c,.d (.int .i64 f),.d (.int .i64 h),.d (.int .i64 t)] (gp (Fb c f h t)):=by
 have h1:=Dm (c.fr.map bP) f;have h2:=wT (c.st.map b9) h;have h3:=KS (c.tr.map eJ) t;have e1:=gY bP c.fr f;have e2:=gY b9 c.st h;have e3:=gY eJ c.tr t;unfold gp Fb;simp only[<-e1,<-e2,<-e3];refine sh0 Tryz.f138 ?_
 repeat' ((conv=>whnf);first|exact zf|refine zm ?_|refine zc h1 ?_|refine zc h2 ?_|refine zc h3 ?_|refine zB ?_ ?_|intro _)
def n_(t:Th)(k:Nat)(s:Sc):Ob:={fo with k:=3,l:=s.l,v:=(jW t k).1,ex:=(jW t k).2}
def rM(t:Th)(k:Nat)(s:Sc):Th:={t with sc:=t.sc.take k,g:=s.g,pa:=s.pa,ma:=s.ma,ro:=s.ro,c:=jb (Fb t.c s.fr s.he s.tr) ⟨3,0,s.nm,s.l.s,s.l.i⟩,st:=0,on:=[],v:=ck,ex:=false}
theorem Mk(t:Th)(k:Nat)(s:Sc)(hs:t.sc[k]?=some s)(hc:cC t.g.cur)(hl:cC s.l)(hn:t.sc.length<1000000000)(hst:t.c.st.length<1000000000) :
  Z0 104 [eW t,.d (.int .i64 k)] (.tu [eW (rM t k s),.d (.str s.nm),jG (n_ t k s)]):=by
 have hk:=(aC.1 hs).1;have e1:(t.sc.map fI).length=t.sc.length:=aI _;have h1:=Fi t k hk hc (by rw[hs];exact hl) hn;have h2:=K0 ((t.sc.map fI).take k);have h3:=VV t.c s.fr s.he s.tr;have h4:=tg (Fb t.c s.fr s.he s.tr) ⟨3,0,s.nm,s.l.s,s.l.i⟩ (by
  unfold Fb gn;rw[a_];omega)
 have e2:(t.sc.take k).map fI=(t.sc.map fI).take k:=jY;generalize hb:jW t k=b at h1;unfold n_ rM;rw[hb];unfold eW eF;simp only[e2];refine sh0 Tryz.f104 ?_
 repeat' ((conv=>whnf);first|exact zf|refine zm ?_|refine zc h1 ?_|refine zc h2 ?_|refine zc h3 ?_|refine zc h4 ?_|refine⟨fI s,⟨by omega,by simp[hs],rfl⟩,?_⟩|refine zB ?_ ?_|refine zt ?_|refine zu ?_|intro _)
def uf(t:Th)(l:Lb)(tk ro now:Int)(nm:List UInt8):Sc:=⟨nm,gV l,now+tk,t.c.fr.length,t.c.st.length,t.c.tr.length,t.g,t.pa,t.ma+1,t.ro-1-ro⟩
def CD(t:Th)(fn vs:Int)(a:Va)(mk:Int)(l:Lb)(tk ro now:Int)(nm:List UInt8):Th:=
 {t with sc:=t.sc++[uf t l tk ro now nm],c:=gK t.c fn vs [a] mk,g:=⟨t.g.cur,gV l⟩,pa:=nm,ma:=0,ro:=ro}
def cr(t:Th)(l:Lb)(tk ro:Int):Int:=
 if tk<1\/1000<tk then -7 else if ro<0\/999<ro then -5 else if b5 t.g l≠0 then b5 t.g l else if t.ro<=ro then -5 else if dW t.c=false then -6 else 0
section
variable(t:Th)(fn vs:Int)(a:Va)(mk:Int)(l:Lb)(tk ro now:Int)
def iQ:Prop:=Z0 280 [eW t,.d (.int .i64 fn),.d (.int .i64 vs),jh a,.d (.int .u8 mk),lO l,.d (.int .i64 tk),.d (.int .i64 ro),.d (.int .i64 now)] (.tu [eW t,.d (.int .i64 (cr t l tk ro))])
theorem AB(h:tk<1\/1000<tk):iQ t fn vs a mk l tk ro now:=by
 unfold iQ cr;rw[ζ h];rcases h with h|h
 .refine sh0 Tryz.f280 ?_
  repeat' ((conv=>whnf);first|exact zf|refine zm ?_|refine zB ?_ ?_|refine zt ?_|refine zu ?_|intro _)
 .refine sh0 Tryz.f280 ?_
  repeat' ((conv=>whnf);first|exact zf|refine zm ?_|refine zB ?_ ?_|refine zt ?_|refine zu ?_|intro _)
theorem CC(h0:¬(tk<1\/1000<tk))(h:ro<0\/999<ro):iQ t fn vs a mk l tk ro now:=by
 unfold iQ cr;rw[η h0,ζ h];rcases h with h|h
 .refine sh0 Tryz.f280 ?_
  repeat' ((conv=>whnf);first|exact zf|refine zm ?_|refine zB ?_ ?_|refine zt ?_|refine zu ?_|intro _)
 .refine sh0 Tryz.f280 ?_
  repeat' ((conv=>whnf);first|exact zf|refine zm ?_|refine zB ?_ ?_|refine zt ?_|refine zu ?_|intro _)
theorem AA(hg:jl t.g)(hl:cC l)(h0:¬(tk<1\/1000<tk))(h1:¬(ro<0\/999<ro))(h:b5 t.g l≠0):iQ t fn vs a mk l tk ro now:=by
 have hw:=gr t.g l hg hl;unfold iQ cr;rw[η h0,η h1,ζ h];refine sh0 Tryz.f280 ?_
 repeat' ((conv=>whnf);first|exact zf|refine zm ?_|refine zc hw ?_|refine zB ?_ ?_|refine zt ?_|refine zu ?_|intro _)
theorem AD(hg:jl t.g)(hl:cC l)(h0:¬(tk<1\/1000<tk))(h1:¬(ro<0\/999<ro))(h:b5 t.g l=0)(h2:t.ro<=ro)(p:List Nat)(n:Nat)(hp:t.pa=b8 p)(hm:t.ma=n)(hp0:p≠[])(hpl:p.length<24)(hps:∀n∈p,n<100)(hn:n<100):iQ t fn vs a mk l tk ro now:=by
 have hw:=gr t.g l hg hl;rw[h]at hw;unfold iQ cr;rw[η h0,η h1,η (by simp[h]),ζ h2]
 by_cases hr:t.ro<1
 .have hnm:=zP t hr;refine sh0 Tryz.f280 ?_
  repeat' ((conv=>whnf);first|exact zf|refine zm ?_|refine zc hw ?_|refine zc hnm ?_|refine zB ?_ ?_|refine zt ?_|refine zu ?_|intro _)
 .have hnm:=se t p n hp hm hp0 hpl hps hn (by omega) (by omega);refine sh0 Tryz.f280 ?_
  repeat' ((conv=>whnf);first|exact zf|refine zm ?_|refine zc hw ?_|refine zc hnm ?_|refine zB ?_ ?_|refine zt ?_|refine zu ?_|intro _)
theorem AE(hg:jl t.g)(hl:cC l)(h0:¬(tk<1\/1000<tk))(h1:¬(ro<0\/999<ro))(h:b5 t.g l=0)(h2:¬t.ro<=ro)(hr2:t.ro<1000000000)(p:List Nat)(n:Nat)(hp:t.pa=b8 p)(hm:t.ma=n)(hp0:p≠[])(hpl:p.length<24)(hps:∀n∈p,n<100)(hn:n<100)
  (hf:t.c.fr.length<1000000000) (h3:dW t.c=false):iQ t fn vs a mk l tk ro now:=by
 have hw:=gr t.g l hg hl;rw[h]at hw;have hnm:=se t p n hp hm hp0 hpl hps hn (by omega) hr2;have he:=mS t.c fn vs [a] mk hf (by simp);unfold lI at he;rw[h3]at he;unfold iQ cr;rw[η h0,η h1,η (by simp[h]),η h2,ζ h3];refine sh0 Tryz.f280 ?_
 repeat' ((conv=>whnf);first|exact zf|refine zm ?_|refine zc hw ?_|refine zc hnm ?_|refine zc he ?_|refine zB ?_ ?_|refine zt ?_|refine zu ?_|intro _)
theorem ue(hg:jl t.g)(hl:cC l)(h0:¬(tk<1\/1000<tk))(h1:¬(ro<0\/999<ro))(h:b5 t.g l=0)(h2:¬t.ro<=ro)(hr2:t.ro<1000000000)(p:List Nat)(n:Nat)(hp:t.pa=b8 p)(hm:t.ma=n)(hp0:p≠[])(hpl:p.length<24)(hps:∀n∈p,n<100)(hn:n<100)
  (hf:t.c.fr.length<1000000000) (hsc:t.sc.length<1000000000) (hw0:0<=now/\now<1000000000) (h3:dW t.c=true) :
  Z0 280 [eW t,.d (.int .i64 fn),.d (.int .i64 vs),jh a,.d (.int .u8 mk),lO l,.d (.int .i64 tk),.d (.int .i64 ro),.d (.int .i64 now)] (.tu [eW (CD t fn vs a mk l tk ro now (b8 (p++[n]))),.d (.int .i64 0)]):=by
 have hw:=gr t.g l hg hl;rw[h]at hw;have hnm:=se t p n hp hm hp0 hpl hps hn (by omega) hr2;have he:=mS t.c fn vs [a] mk hf (by simp);unfold lI at he;rw[h3]at he;have hnr:(nj t).ro=t.ro-1:=rfl;have hno:=j_ l hl;have hcl:=K0 (t.sc.map fI);have e1:(t.sc.map fI).length=t.sc.length:=aI _;have e2:(t.sc++[uf t l tk ro now (b8 (p++[n]))]).map fI=t.sc.map fI++[fI (uf t l tk ro now (b8 (p++[n])))]:=by simp
 have e3:((t.c.fr.map bP).length:Int)=t.c.fr.length:=by simp
 have e4:((t.c.st.map b9).length:Int)=t.c.st.length:=by simp
 have e5:((t.c.tr.map eJ).length:Int)=t.c.tr.length:=by simp
 unfold CD eW eF;simp only[e2];unfold uf;rw[<-e3,<-e4,<-e5];refine sh0 Tryz.f280 ?_
 repeat' ((conv=>whnf);first|exact zf|refine zm ?_|refine zc hw ?_|refine zc hnm ?_|refine zc he ?_|refine zc hno ?_|refine zc hcl ?_|refine zi0 ?_|refine zB ?_ ?_|refine zt ?_|refine zu ?_|intro _)
 trace_state
end
theorem Ei(l:List Nat)(h0:l≠[])(hl:l.length<=24)(hs:∀n∈l,n<100):Z0 24 [.d (.sl 1 (fG l))] (.tu [.d (.str (b8 l)),.d (.bool true)]):=by
 have h1:=P5 l h0 hl hs;refine sh0 Tryz.f24 ?_
 repeat' ((conv=>whnf);first|exact zf|refine zm ?_|refine zc h1 ?_|refine zB ?_ ?_|intro _)
def pS(c:Cf)(b:Bo):Va:=bif decide (0<=b.bo)then(match c.bx[b.bo.toNat]? with
 |some x=>⟨3,0,b8 [b.bo.toNat],x.l.s,x.l.i⟩
 |none=>num b.n)else num b.n
def fA(c:Cf)(b:Bo)(id:List UInt8):Th:=DD id ⟨b.l,b.c⟩ (gK ⟨[],[],[]⟩ b.fu ((c.im.fs[b.fu.toNat]?.getD ⟨0,0,[]⟩).vars) [pS c b] b.ma) b.ro
theorem pF(c:Cf)(b:Bo)(id:List UInt8)(hf:iI c b=true)(hb:b.bo<c.bx.length)(h100:b.bo<100):Z0 27 [yF c,V6 b,.d (.str id)] (eW (fA c b id)):=by
 obtain⟨f,hfs,h0⟩:∃f,c.im.fs[b.fu.toNat]?=some f/\0<=b.fu:=by
  unfold iI at hf;cases h:c.im.fs[b.fu.toNat]? with
  |none=>rw[h]at hf;cases hf
  |some f=>rw[h]at hf;simp at hf;exact⟨f,rfl,hf.1⟩
 have hrow:(c.im.fs.map bc)[b.fu.toNat]?=some (bc f):=by simp[hfs]
 have he:=mS ⟨[],[],[]⟩ b.fu f.vars [pS c b] b.ma (by show 0<1000000000;decide) (by show 1<1000000000;decide);have hn:=P3 id ⟨b.l,b.c⟩ (gK ⟨[],[],[]⟩ b.fu f.vars [pS c b] b.ma) b.ro;simp only[lI,show dW ⟨[],[],[]⟩=true from rfl,δ]at he;unfold fA;rw[hfs,cR];refine sh0 Tryz.f27 ?_
 by_cases hbo:0<=b.bo
 .obtain⟨x,hx⟩:∃x,c.bx[b.bo.toNat]?=some x:=⟨_,aA (by omega)⟩
  have hrx:(c.bx.map cN)[b.bo.toNat]?=some (cN x):=by simp[hx]
  have ho:=Ei [b.bo.toNat] (by simp) (by simp) (by simp;omega);have e1:decide (0<=b.bo)=true:=by simp[hbo]
  have e2:fG [b.bo.toNat]=[[.int .i64 b.bo]]:=by simp[fG];omega
  have e3:pS c b=⟨3,0,b8 [b.bo.toNat],x.l.s,x.l.i⟩:=by unfold pS;rw[e1,hx];rfl
  rw[e2]at ho;rw[e3]at he hn⊢
  repeat' ((conv=>whnf);first|exact zf|refine zm ?_|refine(bf e1 ?_)|refine zc ho ?_|refine zc he ?_|refine zc hn ?_|refine⟨cN x,⟨hbo,hrx,rfl⟩,?_⟩|refine⟨bc f,⟨h0,hrow,rfl⟩,?_⟩|refine zB ?_ ?_|intro _)
 .have e1:decide (0<=b.bo)=false:=by simp;omega
  have e3:pS c b=num b.n:=by unfold pS;rw[e1];rfl
  rw[e3]at he hn⊢
  repeat' ((conv=>whnf);first|exact zf|refine zm ?_|refine(bB e1 ?_)|refine zc he ?_|refine zc hn ?_|refine⟨bc f,⟨h0,hrow,rfl⟩,?_⟩|refine zB ?_ ?_|intro _)
open Go.RowKit Go.Shelf Go.Proofs
def cM(l:List (List UInt8)):List (List D):=l.map λs=>[.str s]
theorem E0{l:List (List UInt8)}{i:Nat}{row:List D}(h:(cM l)[i]?=some row):∃s,l[i]?=some s/\row=[.str s]:=by
 rw[cM,aB,aJ]at h;obtain⟨s,h1,rfl⟩:=h;exact⟨s,h1,rfl⟩
theorem ff(l:List (List UInt8)):(cM l).length=l.length:=aI _
theorem e8(b:Nat):∀(vs:List Value)(o:Nat)(w:World)(arr:Array Value)(ty:TypeId)(m:Nat×Nat),w.heap[b]?=some (.cells arr ty m) ->
  ∃arr',(w.setCells b o vs).heap[b]?=some (.cells arr' ty m)/\arr'.size=arr.size/\(∀j,(j<o\/o+vs.length<=j)->arr'[j]?=arr[j]?)/\(∀j,j<vs.length->o+j<arr.size->arr'[o+j]?=vs[j]?) /\
   (∀k,k≠b->(w.setCells b o vs).heap[k]?=w.heap[k]?)/\(w.setCells b o vs).heap.size=w.heap.size/\(w.setCells b o vs).os=w.os/\(w.setCells b o vs).tape=w.tape/\(w.setCells b o vs).output=w.output
 |[],o,w,arr,ty,m,h=>⟨arr,h,rfl,λ_ _=>rfl,λj hj=>by simp at hj,λ_ _=>rfl,rfl,rfl,rfl,rfl⟩
 |v::vs,o,w,arr,ty,m,h=>by
  have hlt:b<w.heap.size:=(aW.1 h).1;have hv:w.heap[b]=.cells arr ty m:=(aW.1 h).2;have h1:(w.setCell ⟨b,o,none⟩ v).heap[b]?=some (.cells (arr.setIfInBounds o v) ty m):=by
   unfold World.setCell;rw[aS (by simpa using hlt),Array.getElem_modify];simp[hv]
  obtain⟨arr',g1,g2,g3,g4,g5,g6,g7,g8,g9⟩:=e8 b vs (o+1) (w.setCell ⟨b,o,none⟩ v) _ ty m h1;refine⟨arr',g1,by simpa using g2,λj hj=>?_,λj hj hl=>?_,λk hk=>(g5 k hk).trans ?_,by rw[World.setCells,g6];simp[World.setCell],g7,g8,g9⟩
  .rw[g3 j (by simp at hj;omega),Array.getElem?_setIfInBounds,η (by simp at hj;omega)]
  .cases j with
   |zero=>
    rw[eB,g3 o (.inl (by omega)),Array.getElem?_setIfInBounds,ζ rfl,ζ (by omega)];rfl
   |succ j=>
    have:=g4 j (by simpa using hj) (by simp;omega);rw[show o+(j+1)=o+1+j by omega,this];rfl
  .simp[World.setCell,Array.getElem?_modify,kP hk]
theorem Je{G:Nat->Prop}{w w':World}{v0 v1 v2:Value}{x0 x1 x2:B}(hR:HR G w [v0,v1] [x0,x1])(hx:x0≠.no)(hs:w.heap.size<=w'.heap.size)(same:∀b,b<w.heap.size->b∉fF v0 x0->w'.heap[b]?=w.heap[b]?)(ho:w'.os=w.os)(ht:w'.tape=w.tape)(hou:w'.output=w.output)
  (new:cQ G w' [v0,v1,v2] v2 x2) (hb1:∀b∈fF v2 x2,b∈fF v0 x0\/w.heap.size<=b) (hnl:∀z rs,x0≠.lk z rs/\x1≠.lk z rs:=by simp):Ok ⟨w,G,[v0,v1],[x0,x1],[],[]⟩ G w' [v0,v1,v2] [.no,.no,x2]:=by
 have h0:∀b,b∈fF v0 x0->own [v0,v1] [x0,x1] b:=λb hb=>⟨0,v0,x0,rfl,rfl,hx,hb⟩
 have hG:∀b,G b->w'.heap[b]?=w.heap[b]?:=λb hb=>same b (hR.gl b hb) λh=>hR.gd b hb (h0 b h);have get:∀(i:Nat)(v:Value)(y:B),[v0,v1,v2][i]?=some v->[B.no,B.no,x2][i]?=some y->y≠.no->i=2/\v=v2/\y=x2:=by
  intro i v y h1 h2 h3
  match i,h1,h2 with
  |0,h1,h2=>cases h2;exact absurd rfl h3
  |1,h1,h2=>cases h2;exact absurd rfl h3
  |2,h1,h2=>cases h1;cases h2;exact⟨rfl,rfl,rfl⟩
 have hown:∀b,own [v0,v1,v2] [.no,.no,x2] b->own [v0,v1] [x0,x1] b\/w.heap.size<=b:=by
  rintro b ⟨i,v,y,h1,h2,h3,h4⟩
  obtain⟨rfl,rfl,rfl⟩:=get i v y h1 h2 h3;exact(hb1 b h4).imp (h0 b) λh=>h
 refine⟨⟨rfl,λi v y h1 h2=>?_,λi j v u x y b h1 h2 h3 h4 h5 h6 _ _=>?_,λb hb=>bj (hR.gl b hb) hs,λb hb ho=>?_,hR.vR.mono (λ_ h=>h) hG⟩,λ_ h=>h,λ_ h=>.inl h,λb hb=>(hown b hb).symm.imp (λh=>h) λh=>h,
  λb hb hn=>same b hb λh=>hn (h0 b h),hs,ho,ht,hou,λi v hv _=>?_,by simp,(λ_ h=>nomatch h),λi z rs hi=>?_⟩
 .by_cases hy:y=.no
  .subst hy;trivial
  .obtain⟨rfl,rfl,rfl⟩:=get i v y h1 h2 hy;exact new
 .obtain⟨rfl,_⟩:=get i v x h1 h2 h3;obtain⟨rfl,_⟩:=get j u y h4 h5 h6;rfl
 .rcases hown b ho with h|h
  .exact hR.gd b hb h
  .have:=hR.gl b hb;omega
 .match i,hv with
  |0,hv=>exact hv
  |1,hv=>exact hv
 .match i,hi with
  |0,hi=>exact absurd (af hi) (hnl z rs).1
  |1,hi=>exact absurd (af hi) (hnl z rs).2
theorem sk (l:List (List UInt8)) (key:List UInt8) (i:Nat) (hi:i≤l.length) (hll:l.length<1000000000) :
    Z1 52 [.os 0,.d (.int .i64 i),.os 1] [.rows 1 (cM l),.rows 1 [[.str key]]] λout h=>out=.ret (.os 2)/\h=[.no,.no,.rows 1 (cM (l.take i++key::l.drop i))]:=by
  refine .inl ⟨by kernel_rfl,λG w ρ vs hR hl hv=>?_⟩
  match ρ,hR.len with
  |[v0,v1],_=>
  match vs,hl with
  |[a0,a1,a2],_=>
  have e0:a0=v0:=by
    have:=hv 0 _ rfl
    cases this with|o h=>cases h with|c h=>cases h with|k h=>cases h with|os _ a n c h=>exact(af h).symm
  have e1:a1=.int .i64 i:=(hv 1 _ rfl).int
  subst e0 e1
  have e2:a2=v1:=by
    have:=hv 2 _ rfl
    cases this with|o h=>cases h with|c h=>cases h with|k h=>cases h with|os _ a n c h=>exact(af h).symm
  subst e2
  obtain⟨vb,vc,vty,s,varr,e2,hvb,hcv,hs⟩:∃vb vc vty s varr,a2=.slice (some ⟨vb,0,none⟩) 1 vc/\w.heap[vb]?=some (.cells varr vty (0,0))/\varr[0]?=some (.string s)/\bp G w (.string s) (.str key):=by
    rcases hR.rep 1 a2 _ rfl rfl with⟨_,h⟩|⟨b,c,arr,ty,h0,h1,h2,h3,h4,h5⟩
    · cases h
    · have:=(h5 0 _ rfl).2 0 _ rfl
      have hlt:0<arr.size:=by rw[h4];simp at h2;omega
      rw[Nat.zero_mul,cE,aH,aS hlt]at this
      generalize hx:arr[0]=x at this
      have hx':arr[0]?=some x:=by rw[aS hlt,hx]
      replace this:bp G w x (.str key):=this
      cases this with
      |str s hs=>exact⟨b,c,ty,s,arr,h0,h1,hx',.str s hs⟩
  have e2':=e2
  subst e2'
  have hvs:∀(o:Nat)(j:Nat)(v:Value),[Value.string s][j]?=some v->o=0->w.cell? ⟨vb,o+j,none⟩=some v:=by
    intro o j v hj ho
    subst ho
    match j,hj with
    |0,hj=>cases hj;rw[cz hvb];exact hcv
  have hmax:(1000000000:Nat)<=maxLen:=by decide
  have hlen:(l.take i++key::l.drop i).length=l.length+1:=by
    rw[aM,aZ,a_,dt]
    omega
  have fin:∀(w':World)(b' c':Nat)(arr':Array Value)(ty:TypeId),w'.heap[b']?=some (.cells arr' ty (0,0))->arr'.size=c'->l.length+1<=c'->c'<=maxLen->(∀(j:Nat)(u:List UInt8),(l.take i++key::l.drop i)[j]?=some u->bp G w (arr'.getD j undef) (.str u)) ->
      (b'∈fF a0 (.rows 1 (cM l))\/w.heap.size<=b')->w.heap.size<=w'.heap.size->(∀b,b<w.heap.size->b∉fF a0 (.rows 1 (cM l))->w'.heap[b]?=w.heap[b]?)->w'.os=w.os->w'.tape=w.tape->w'.output=w.output ->
      ∃(G':Nat->Prop)(ρ':List Value)(h':H)(out:Out),Ok ⟨w,G,[a0,.slice (some ⟨vb,0,none⟩) 1 vc],[.rows 1 (cM l),.rows 1 [[.str key]]],[],[]⟩ G' w' ρ' h'/\Nr G' w' ρ' (.returned (.slice (some ⟨b',0,none⟩) (l.length+1) c')) out/\(out=.ret (.os 2)/\h'=[.no,.no,.rows 1 (cM (l.take i++key::l.drop i))]):=by
    intro w' b' c' arr' ty g1 g2 g3 g4 g5 g6 g7 g8 g9 g10 g11
    refine⟨G,[a0,.slice (some ⟨vb,0,none⟩) 1 vc,.slice (some ⟨b',0,none⟩) (l.length+1) c'],_,.ret (.os 2),Je (x2:=.rows 1 (cM (l.take i++key::l.drop i))) hR (by simp) g7 g8 g9 g10 g11 (.inr ⟨b',c',arr',ty,?_,g1,?_,g4,by omega,λj row hj=>?_⟩) (λb hb=>?_),⟨_,rfl,.k (.os 2 _ _ _ rfl)⟩,rfl,rfl⟩
    · rw[ff,hlen]
    · rw[ff,hlen];exact g3
    · obtain⟨u,h1,rfl⟩:=E0 hj
      refine⟨rfl,λk x hx=>?_⟩
      match k,hx with
      |0,hx=>
        cases hx
        have:=g5 j u h1
        rw[show j*1+0=j by omega]
        exact xB this rfl
    · have hb:=(fT).1 hb
      cases hb
      exact g6
  have fst:∀{j:Nat},j<i->(l.take i++key::l.drop i)[j]?=l[j]?:=λhj=>by
    rw[aR (by rw[a_];omega),bO,ζ hj]
  have mid:(l.take i++key::l.drop i)[i]?=some key:=by
    rw[ae (by rw[a_];omega),a_,Nat.min_eq_left hi,gM];rfl
  have lst:∀{j:Nat},i<j->(l.take i++key::l.drop i)[j]?=l[j-1]?:=λ{j} hj=>by
    rw[ae (by rw[a_];omega),a_,Nat.min_eq_left hi]
    obtain⟨k,rfl⟩:∃k,j=i+1+k:=⟨j-(i+1),by omega⟩
    rw[show i+1+k-i=k+1 by omega,eX,bY]
    congr 1
    omega
  have hgt:∀(arr:Array Value)(j:Nat)(v:Value),arr[j]?=some v->arr.getD j undef=v:=λarr j v h=>by rw[aH,h];rfl
  have grw:∀(o:Obj),ga w (w.drew.alloc o):=λo=>(ga.drew w).trans (ga.alloc _ _)
  have zc:∀k,(Builtin.zeroCells (Value.string ⟨#[]⟩).cells k).size=k:=λk=>by rw[size_zeroCells];simp[Value.cells]
  rcases hR.rep 0 a0 _ rfl rfl with⟨rfl,hnil⟩|⟨b,c,arr,ty,rfl,h1,h2,h3,h4,h5⟩
  · skip
    have hl0:l=[]:=by
      cases l with
      |nil=>rfl
      |cons=>cases hnil
    subst hl0
    have Bn:i=0:=by simpa using hi
    subst Bn
    have:=Any2.slices_Insert_string_end_grow insert none 0 0 vb 0 1 vc [] [.string s] w (by omega) (by omega) (by omega) (by omega) rfl rfl (λ_=>rfl) (λa h=>by cases h) (λj v hj=>hvs 0 j v hj rfl) (by simp[Value.oneCell'])
    refine Calls.mono this ?_
    rintro e w' ⟨rfl,rfl⟩
    have hge:=grownCap_ge w (0+1) 0 (iB.t 9)
    refine fin _ _ _ _ _ (heap_alloc_new w.drew _) ?_ hge (grownCap_le_maxLen w _ _ _ (by omega)) (λj u hj=>?_) (.inr (aL _)) (grw _).size (λb hb _=>(grw _).iZ b hb) rfl rfl rfl
    · simp only[Array.size_append,zc,eC,aM,ak,aZ]
      omega
    · match j,hj with
      |0,hj=>
        cases hj
        rw[hgt _ 0 (.string s) (by rw[cX (by simp)];rfl)]
        exact hs
  · rw [ff] at h2 hR fin ⊢
    have hsz:arr.size=c:=by omega
    have iZ:∀(j:Nat)(u:List UInt8),l[j]?=some u->bp G w (arr.getD j undef) (.str u):=λj u hj=>by
      have:=(h5 j [.str u] (by rw[cM,aB,hj];rfl)).2 0 _ rfl
      rwa[show j*1+0=j by omega]at this
    have hbo:b∈fF (.slice (some ⟨b,0,none⟩) l.length c) (.rows 1 (cM l)):=(fT).2 rfl
    have hblt:b<w.heap.size:=(aW.1 h1).1
    have hne:vb≠b:=λe=>by
      have:=hR.pv 0 1 _ _ _ _ b rfl rfl (by simp) rfl rfl (by simp) hbo ((fT).2 (by rw[<-e];rfl))
      cases this
    have hcell:∀j,j<c->w.cell? ⟨b,0+j,none⟩=some (arr.getD j undef):=λj hj=>by
      rw[cE,cz h1,aH,aS (by omega)];rfl
    have hcs:∀(j:Nat)(v:Value),((List.range l.length).map λj=>arr.getD j undef)[j]?=some v->v=arr.getD j undef/\j<l.length:=λj v hj=>by
      rw[aB,aJ]at hj
      obtain⟨k,hk,rfl⟩:=hj
      obtain⟨hk1,hk2⟩:=aC.1 hk
      simp at hk1 hk2
      exact⟨by rw[hk2],hk1⟩
    have hone:∀v∈(List.range l.length).map (λj=>arr.getD j undef),v.oneCell'=true:=λv hv=>by
      obtain⟨j,hj⟩:=ao.1 hv
      obtain⟨rfl,hj2⟩:=hcs j v hj
      have:=iZ j _ (aA hj2)
      generalize l[j]=y at this
      generalize arr.getD j undef=u at this⊢
      cases this
      rfl
    have hc63:c<=9223372036854775807:=h3
    have hfz:∀j,w.frozen? ⟨b,j,none⟩=false:=λj=>by simp[World.frozen?,h1]
    by_cases hin:i=l.length
    · subst hin
      by_cases hroom:l.length+1<=c
      · have:=Any2.slices_Insert_string_end_room insert b 0 l.length c vb 0 1 vc [.string s] w (by omega) hroom hc63 rfl (λj hj=>by rw[show 0+l.length+j=0+(l.length+j)by omega,hcell _ (by omega)];rfl) (λj _=>hfz _) (λj v hj=>hvs 0 j v hj rfl) (by simp[Value.oneCell'])
        refine Calls.mono this ?_
        rintro e w' ⟨rfl,rfl⟩
        obtain⟨arr',g1,g2,g3,g4,g5,g6,g7,g8,g9⟩:=e8 b [.string s] (0+l.length) w arr ty _ h1
        refine fin _ b c arr' ty g1 (by omega) hroom h3 (λj u hj=>?_) (.inl hbo) (by omega) (λk hk hk2=>g5 k λe=>hk2 (by rw[e];exact hbo)) g7 g8 g9
        by_cases hj1:j<l.length
        · rw[fst hj1]at hj
          have:=iZ j u hj
          rwa[aH,g3 j (.inl (by omega)),<-aH]
        · have hjl:=(aC.1 hj).1
          rw[hlen]at hjl
          have:j=l.length:=by omega
          subst this
          rw[mid]at hj
          cases hj
          have:=g4 0 (by simp) (by omega)
          rw[show 0+l.length+0=l.length by omega]at this
          rw[hgt _ _ _ this]
          exact hs
      · have:=Any2.slices_Insert_string_end_grow insert (some ⟨b,0,none⟩) l.length c vb 0 1 vc ((List.range l.length).map λj=>arr.getD j undef) [.string s] w (by omega) h2 (by omega) (by omega) (by simp) rfl (λh=>by cases h) (λa h j v hj=>by
          cases h
          obtain⟨rfl,hj2⟩:=hcs j v hj
          have:=hcell j (by omega)
          rw[Addr.add_lit]
          exact this) (λj v hj=>hvs 0 j v hj rfl) (by simp[Value.oneCell'])
        refine Calls.mono this ?_
        rintro e w' ⟨rfl,rfl⟩
        have hge:=grownCap_ge w (l.length+1) c (iB.t 9)
        refine fin _ _ _ _ _ (heap_alloc_new w.drew _) ?_ hge (grownCap_le_maxLen w _ _ _ (by omega)) (λj u hj=>?_) (.inr (aL _)) (grw _).size (λb hb _=>(grw _).iZ b hb) rfl rfl rfl
        · simp only[Array.size_append,zc,eC,aM,ak,aZ,aI,List.length_range]
          omega
        · by_cases hj1:j<l.length
          · rw[fst hj1]at hj
            have:=iZ j u hj
            rw[hgt _ j (arr.getD j undef) (by rw[cX (by simp;omega)];simp[aR,hj1])]
            exact this
          · have hjl:=(aC.1 hj).1
            rw[hlen]at hjl
            have:j=l.length:=by omega
            subst this
            rw[mid]at hj
            cases hj
            rw[hgt _ l.length (.string s) (by rw[cX (by simp)];simp)]
            exact hs
    · have hil:i<l.length:=by omega
      have hcsl:((List.range l.length).map λj=>arr.getD j undef).length=l.length:=by simp
      have hcs2:∀(j:Nat)(v:Value),((List.range l.length).map λj=>arr.getD j undef)[j]?=some v->w.cell? ⟨b,0+j,none⟩=some v:=λj v hj=>by
        obtain⟨rfl,hj2⟩:=hcs j v hj
        exact hcell j (by omega)
      have hdr:∀{j:Nat},j<l.length-i->(((List.range l.length).map λj=>arr.getD j undef).drop i)[j]?=some (arr.getD (i+j) undef):=λ{j} hj=>by
        rw[bY,aB,cp (by omega)]
        rfl
      have hdl:(((List.range l.length).map λj=>arr.getD j undef).drop i).length=l.length-i:=by simp
      have new:∀(arr':Array Value),(∀j,j<i->arr'[j]?=some (arr.getD j undef))->arr'[i]?=some (.string s)->(∀j,j<l.length-i->arr'[i+1+j]?=some (arr.getD (i+j) undef))->∀(j:Nat)(u:List UInt8),(l.take i++key::l.drop i)[j]?=some u->bp G w (arr'.getD j undef) (.str u):=by
        intro arr' n1 n2 n3 j u hj
        have hjl:=(aC.1 hj).1
        rw[hlen]at hjl
        rcases Nat.lt_trichotomy j i with h|rfl|h
        · rw[fst h]at hj
          rw[hgt _ _ _ (n1 j h)]
          exact iZ j u hj
        · rw[mid]at hj
          cases hj
          rw[hgt _ _ _ n2]
          exact hs
        · rw[lst h]at hj
          have:=n3 (j-(i+1)) (by omega)
          rw[show i+1+(j-(i+1))=j by omega,show i+(j-(i+1))=j-1 by omega]at this
          rw[hgt _ _ _ this]
          exact iZ _ u hj
      by_cases hroom:l.length+1<=c
      · have:=Any2.slices_Insert_string_shift insert b 0 l.length c i vb 0 1 vc ((List.range l.length).map λj=>arr.getD j undef) [.string s] w hil (by omega) hroom hc63 hne hcsl rfl hcs2 (λj hj=>by rw[hcell j (by omega)];rfl) (λj _=>by rw[cE];exact hfz _) (λj v hj=>hvs 0 j v hj rfl) hone (by simp[Value.oneCell'])
          vty ty varr.size arr.size (by simp[World.shape?,hvb]) (by simp[World.shape?,h1]) (by omega) (by simp[World.frozen?,hvb]) (by simp[World.frozen?,hvb])
        refine Calls.mono this ?_
        rintro e w' ⟨rfl,rfl⟩
        obtain⟨arr1,g1,g2,g3,g4,g5,g6,g7,g8,g9⟩:=e8 b (((List.range l.length).map λj=>arr.getD j undef).drop i) (0+(i+1)) w.drew arr ty _ h1
        obtain⟨arr2,k1,k2,k3,k4,k5,k6,k7,k8,k9⟩:=e8 b [.string s] (0+i) _ arr1 ty _ g1
        refine fin _ b c arr2 ty k1 (by omega) hroom h3 (new arr2 (λj hj=>?_) ?_ (λj hj=>?_)) (.inl hbo) (by rw[k6,g6];exact aL _) (λk hk hk2=>?_) (k7.trans g7) (k8.trans g8) (k9.trans g9)
        · rw[k3 j (.inl (by omega)),g3 j (.inl (by omega)),aH,aS (by omega)]
          rfl
        · have:=k4 0 (by simp) (by omega)
          rw[show 0+i+0=i by omega]at this
          exact this
        · rw[k3 _ (.inr (by simp<;>omega))]
          have:=g4 j (by omega) (by omega)
          rw[show 0+(i+1)+j=i+1+j by omega,hdr hj]at this
          exact this
        · have hne2:k≠b:=λe=>hk2 (by rw[e];exact hbo)
          exact(k5 k hne2).trans (g5 k hne2)
      · have:=Any2.slices_Insert_string_grow insert b 0 l.length c i vb 0 1 vc ((List.range l.length).map λj=>arr.getD j undef) [.string s] w hil (by omega) h2 (by omega) (by omega) hcsl rfl hcs2 (λj v hj=>hvs 0 j v hj rfl) hone (by simp[Value.oneCell'])
        refine Calls.mono this ?_
        rintro e w' ⟨rfl,rfl⟩
        have hge:=grownCap_ge w (l.length+1) c (iB.t 9)
        have hgm:=grownCap_le_maxLen w (l.length+1) c (iB.t 9) (by omega)
        generalize grownCap w (l.length+1) c (iB.t 9)=gc at *
        have h0:=heap_alloc_new w (.cells ((((List.range l.length).map λj=>arr.getD j undef).take i).toArray++Builtin.zeroCells (Value.string ⟨#[]⟩).cells (l.length+1-i)++Builtin.zeroCells (Value.string ⟨#[]⟩).cells (gc-(l.length+1))) (iB.t 9))
        have hg0:=ga.alloc w (.cells ((((List.range l.length).map λj=>arr.getD j undef).take i).toArray++Builtin.zeroCells (Value.string ⟨#[]⟩).cells (l.length+1-i)++Builtin.zeroCells (Value.string ⟨#[]⟩).cells (gc-(l.length+1))) (iB.t 9))
        have hz:((((List.range l.length).map λj=>arr.getD j undef).take i).toArray++Builtin.zeroCells (Value.string ⟨#[]⟩).cells (l.length+1-i)++Builtin.zeroCells (Value.string ⟨#[]⟩).cells (gc-(l.length+1))).size=gc:=by
          simp only[Array.size_append,zc,eC,a_,aI,List.length_range]
          omega
        have hf:∀j,j<i->((((List.range l.length).map λj=>arr.getD j undef).take i).toArray++Builtin.zeroCells (Value.string ⟨#[]⟩).cells (l.length+1-i)++Builtin.zeroCells (Value.string ⟨#[]⟩).cells (gc-(l.length+1)))[j]?=some (arr.getD j undef):=λj hj=>by
          rw[Array.append_assoc,cX (by simp;omega),fO,bO,ζ hj,aB,cp (by omega)]
          rfl
        generalize((((List.range l.length).map λj=>arr.getD j undef).take i).toArray++Builtin.zeroCells (Value.string ⟨#[]⟩).cells (l.length+1-i)++Builtin.zeroCells (Value.string ⟨#[]⟩).cells (gc-(l.length+1)))=ar0 at *
        obtain⟨arr1,g1,g2,g3,g4,g5,g6,g7,g8,g9⟩:=e8 w.heap.size [.string s] i (w.alloc (.cells ar0 (iB.t 9))).drew ar0 _ _ h0
        obtain⟨arr2,k1,k2,k3,k4,k5,k6,k7,k8,k9⟩:=e8 w.heap.size (((List.range l.length).map λj=>arr.getD j undef).drop i) (i+1) ((w.alloc (.cells ar0 (iB.t 9))).drew.setCells w.heap.size i [.string s]).drew arr1 _ _ g1
        refine fin _ w.heap.size gc arr2 _ k1 (by omega) hge hgm (new arr2 (λj hj=>?_) ?_ (λj hj=>?_)) (.inr (aL _)) ?_ (λk hk hk2=>?_) (k7.trans g7) (k8.trans g8) (k9.trans g9)
        · rw[k3 j (.inl (by omega)),g3 j (.inl (by omega)),hf j hj]
        · rw[k3 i (.inl (by omega))]
          have:=g4 0 (by simp) (by omega)
          exact this
        · have:=k4 j (by omega) (by omega)
          rw[hdr hj]at this
          exact this
        · rw[k6]
          show w.heap.size<=((w.alloc (.cells ar0 (iB.t 9))).drew.setCells w.heap.size i [.string s]).heap.size
          rw[g6]
          exact hg0.size
        · exact(k5 k (by omega)).trans ((g5 k (by omega)).trans (hg0.iZ k hk))
end Go.Proofs.YtmigecldjbgneaaGreatDoor