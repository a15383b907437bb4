/- Lemmas. Conditions: none. -/
import Derived.Test.YtmigecldjbgneaaGreatDoorQKBG
set_option maxHeartbeats 4000000
set_option maxRecDepth 100000
namespace Go.Proofs.YtmigecldjbgneaaGreatDoor
open Go.Vx
set_option maxRecDepth 100000
def lJ(im:Im)(N:Nat):List Fn->Int->Option (Int×Int×Int)
 |[],_=>some (0,0,0)
 |fn::r,i=>match nM im fn N with
  |none=>none
  |some (.ok _)=>lJ im N r (i+1)
  |some (.error e)=>bif e.2 != 0 then some (i,e.1,e.2)else lJ im N r (i+1)
def V5(r:Int×Int×Int):V:=.tu [.d (.int .i64 r.1),.d (.int .i64 r.2.1),.d (.int .i64 r.2.2)]
theorem Ds(im:Im)(hI:CX im)(N:Nat)(r:Int×Int×Int)(hr:lJ im N im.fs 0=some r):Z0 28 [sC im] (V5 r):=by
  have hc:=N8 im hI
  have hfl:=hI.f2
  refine sh0 Tryz.f28 ?_
  repeat' ((conv=>whnf);first|exact zf|refine zm ?_|refine zc hc ?_|refine zB ?_ ?_|intro _)
  conv=>whnf
  refine bA [(1,.p 0 0),(16,.d (.int .i64 (im.fs.map bc).length))] (λi:Nat=>i<=im.fs.length/\lJ im N (im.fs.drop i) i=some r) (λi=>[(17,.d (.int .i64 i))]) (λ_=>[.cells [.d (.sl 5 (im.cs.map b9)),.d (.sl 3 (im.fs.map bc))]]) (λi=>im.fs.length-i) 0 ⟨aY _,by simpa using hr⟩ ?_ ?_ ?_ (λi ⟨hi,he⟩=>?_)
  · exact zzz
  · exact zzz
  · exact rfl
  repeat' ((conv=>whnf);first|exact zf|refine zm ?_|refine zB ?_ ?_|intro _)
  refine aU (λhlt=>?_) (λhge=>?_)
  · have hlt:i<im.fs.length:=by simpa using hlt
    obtain⟨fn,hf⟩:∃fn,im.fs[i]?=some fn:=⟨_,aA hlt⟩
    have hdr:im.fs.drop i=fn::im.fs.drop (i+1):=by
      rw[bC hlt]
      rw[aA hlt]at hf
      cases hf
      rfl
    rw[hdr]at he
    simp only[lJ]at he
    cases hT:nM im fn N with
    |none=>rw[hT]at he;cases he
    |some R=>
      rw[hT]at he
      repeat' ((conv=>whnf);first|exact zf|refine zm ?_|refine zB ?_ ?_|intro _)
      refine LZ im hI i fn hf N R hT ?_
      cases R with
      |ok s=>
        repeat' ((conv=>whnf);first|exact zf|refine zm ?_|refine zi0 ?_|refine zB ?_ ?_|intro _)
        refine⟨i+1,⟨hlt,by simpa using he⟩,aN hlt (aQ i),zzz,zzz,rfl⟩
      |error e=>
        simp only at he
        cases hz:e.2 != 0 with
        |false=>
          rw[hz]at he
          repeat' ((conv=>whnf);first|exact zf|refine zm ?_|refine(bB hz ?_)|refine zi0 ?_|refine zB ?_ ?_|intro _)
          refine⟨i+1,⟨hlt,by simpa using he⟩,aN hlt (aQ i),zzz,zzz,rfl⟩
        |true=>
          rw[hz]at he
          simp only[δ,aD]at he
          subst he
          repeat' ((conv=>whnf);first|exact zf|refine zm ?_|refine(bf hz ?_)|refine zB ?_ ?_|intro _)
  · have hge:i=im.fs.length:=by
      have:¬i<im.fs.length:=by simpa using hge
      omega
    rw[hge,du]at he
    simp only[lJ,aD]at he
    subst he
    repeat' ((conv=>whnf);first|exact zf|refine zm ?_|refine zB ?_ ?_|intro _)
theorem K3:Z0 28 [sC ⟨[],[]⟩] (V5 (0,0,6)):=by
 have hc:=K2;refine sh0 Tryz.f28 ?_
 repeat' ((conv=>whnf);first|exact zf|refine zm ?_|refine zc hc ?_|refine zB ?_ ?_|intro _)
def K_(c:Int):Option (Int×Int×Int):=(inf c).map λi=>(i.ar,bif c==17 then i.po+1 else i.po,i.pu)
def LB(c:Int):Bool:=c==15||(c==16||(c==18||(c==19||(c==20||(c==21||(c==24||c==31))))))
def GD(ar a:Int):Bool:=
 bif ar==0 then a==0 else bif ar==1 then decide (0<=a)&&decide (a<16)else bif ar==2 then decide (0<=a)&&decide (a<8)else bif ar==4 then decide (0<=a)&&decide (a<3)else bif ar==5 then decide (0<=a)&&decide (a<=63)else false
inductive LF:Int->List Op->Int->Prop
  |nil (h:Int):LF h [] h
  |cons {c a ar t p h h':Int} {r:List Op} (hk:K_ c=some (ar,t,p)) (hc:LB c=false) (ha:GD ar a=true) (h1:t<=h) (h2:h-t+p<=8) (hr:LF (h-t+p) r h'):LF h (⟨c,a⟩::r) h'
def yI(d:List Op):Prop:=(LF 0 d 0/\d≠[]/\(d.getLast?.map (·.c))≠some 19/\d.length<=8)\/∃n:Int,0<=n/\n<8/\d=[⟨1,n⟩,⟨19,0⟩]
def xZ(l:List Int)(a:Int)(c:List Op):H:=[.cells [.d (.sl 1 (dE l)),.d (.int .i64 a),.os 1],.rows 2 (c.map cV)]
def jE(l:List Int):Prop:=∀x∈l,0<=x/\x<=255
theorem BY{K:KT}(l:List Int)(a:Int)(c:List Op)(hl:jE l)(ha:0<=a/\a<1000000)(hk:∀n,0<=n/\n<=255->K (.ret (.d (.int .i64 n))) (xZ l (a+1) c)):Z1 42 [.p 0 0] (xZ l a c) K:=by
 have hrl:=gg l;refine sh0 Tryz.f42 ?_
 repeat' ((conv=>whnf);first|exact zf|refine zm ?_|refine zi0 ?_|refine zB ?_ ?_|intro _)
 refine aU (λhgt=>?_) (λhle=>?_)
 .skip
  repeat' ((conv=>whnf);first|exact zf|refine zm ?_|refine zB ?_ ?_|intro _)
  exact hk 0 ⟨by omega,by omega⟩
 .have hle:a+1<=l.length:=by have:=ι hle;omega
  obtain⟨x,hx⟩:∃x,l[a.toNat]?=some x:=⟨_,aA (by omega)⟩
  have hb:=hl x (aG hx)
  repeat' ((conv=>whnf);first|exact zf|refine zm ?_|refine zi0 ?_|refine zB ?_ ?_|intro _)
  refine⟨[D.int .u8 x],⟨by omega,by rw[show a+1-1=a by omega];simp[dE,hx],rfl⟩,?_⟩
  repeat' ((conv=>whnf);first|exact zf|refine zm ?_|refine zi0 ?_|refine zB ?_ ?_|intro _)
  exact hk x hb
theorem j7{K:KT}(l:List Int)(a:Int)(c:List Op)(x y:Int)(hc:c.length<=1000000)(hk:K (.ret (.tu [])) (xZ l a (c++[⟨x,y⟩]))):Z1 41 [.p 0 0,.d (.int .i64 x),.d (.int .i64 y)] (xZ l a c) K:=by
 have hcl:(c.map cV).length=c.length:=by simp
 have he:(c++[(⟨x,y⟩:Op)]).map cV=c.map cV++[[.int .i64 x,.int .i64 y]]:=by simp[cV]
 unfold xZ at hk;rw[he]at hk;refine sh0 Tryz.f41 ?_
 repeat' ((conv=>whnf);first|exact zf|refine zm ?_|refine zB ?_ ?_|intro _)
 exact hk
theorem vU{n:Int}(h:0<=n/\n<=255)(k:Int)(hk:0<k):0<=n.tmod k/\n.tmod k<k:=by
 rw[Int.tmod_eq_emod_of_nonneg h.1];exact⟨Int.emod_nonneg _ (by omega),Int.emod_lt_of_pos _ hk⟩
theorem Eo{K:KT}(l:List Int)(a:Int)(c:List Op)(hl:jE l)(ha:0<=a/\a<1000000)(hc:c.length<=1000000)(hk:∀n,0<=n/\n<8->K (.ret (.tu [])) (xZ l (a+1) (c++[⟨1,n⟩]))):Z1 115 [.p 0 0] (xZ l a c) K:=by
 refine sh0 Tryz.f115 ?_
 repeat' ((conv=>whnf);first|exact zf|refine zm ?_|refine zr0 ?_|refine(BY l _ _ hl ha (λn hn=>?_))|refine(j7 l _ _ _ _ hc ?_)|refine zB ?_ ?_|intro _)
 exact hk _ (vU ‹_› 8 (by decide))
theorem Md{K:KT}(l:List Int)(a:Int)(c:List Op)(hl:jE l)(ha:0<=a/\a<1000000)(hc:c.length<=1000000)(hk:∀n,8<=n/\n<16->K (.ret (.tu [])) (xZ l (a+1) (c++[⟨1,n⟩]))):Z1 116 [.p 0 0] (xZ l a c) K:=by
 refine sh0 Tryz.f116 ?_
 repeat' ((conv=>whnf);first|exact zf|refine zm ?_|refine zr0 ?_|refine(BY l _ _ hl ha (λn hn=>?_))|refine(j7 l _ _ _ _ hc ?_)|refine(.inl ⟨by have:=vU ‹_› 8 (by decide);unfold dB;omega,?_⟩)|refine zB ?_ ?_|intro _)
 exact hk _ (by have:=vU hn 8 (by decide);omega)
theorem DN{K:KT}(l:List Int)(a:Int)(c:List Op)(x:Int)(hc:c.length<=1000000)(hk:K (.ret (.tu [])) (xZ l a (c++[⟨2,x⟩]))):Z1 77 [.p 0 0,.d (.int .i64 x)] (xZ l a c) K:=by
 refine sh0 Tryz.f77 ?_
 repeat' ((conv=>whnf);first|exact zf|refine zm ?_|refine zr0 ?_|refine(j7 l _ _ _ _ hc ?_)|refine zB ?_ ?_|intro _)
 exact hk
theorem mH{K:KT}(l:List Int)(a:Int)(c:List Op)(hl:jE l)(ha:0<=a/\a<1000000)
  (hk:∀n,0<=n/\n<=255/\0<=n.tmod 8/\n.tmod 8<8/\0<=n.tmod 7/\n.tmod 7<7/\0<=n.tmod 2/\n.tmod 2<2/\0<=n.tmod 4/\n.tmod 4<4/\0<=n.tmod 32/\n.tmod 32<32->K (.ret (.d (.int .i64 n))) (xZ l (a+1) c)):Z1 42 [.p 0 0] (xZ l a c) K:=by
 refine BY l a c hl ha λn hn=>hk n ?_;have h8:=vU hn 8 (by decide);have h7:=vU hn 7 (by decide);have h2:=vU hn 2 (by decide);have h4:=vU hn 4 (by decide);have h32:=vU hn 32 (by decide);exact⟨hn.1,hn.2,h8.1,h8.2,h7.1,h7.2,h2.1,h2.2,h4.1,h4.2,h32.1,h32.2⟩
theorem Tc{x0 x1 x2 x3 i:Int}{Q:Prop}(hi:0<=i/\i<4)(h0:0<=x0/\x0<8)(h1:0<=x1/\x1<8)(h2:0<=x2/\x2<8)(h3:0<=x3/\x3<8)
  (hQ:∀x,0<=x/\x<8->[[D.int .i64 x0],[D.int .i64 x1],[D.int .i64 x2],[D.int .i64 x3]][i.toNat]?=some [D.int .i64 x]->Q):Q:=by
 have h:i=0\/i=1\/i=2\/i=3:=by omega
 rcases h with rfl|rfl|rfl|rfl
 .exact hQ x0 h0 rfl
 .exact hQ x1 h1 rfl
 .exact hQ x2 h2 rfl
 .exact hQ x3 h3 rfl
theorem Tb{x0 x1 x2 x3 i:Int}{K:List D->Prop}(hi:0<=i/\i<4)(h0:0<=x0/\x0<8)(h1:0<=x1/\x1<8)(h2:0<=x2/\x2<8)(h3:0<=x3/\x3<8)
  (hQ:∀x,0<=x/\x<8->K [D.int .i64 x]):∃row,(0<=i/\[[D.int .i64 x0],[D.int .i64 x1],[D.int .i64 x2],[D.int .i64 x3]][i.toNat]?=some row/\Nat.beq 1 1=true)/\K row:=
 Tc hi h0 h1 h2 h3 λx hx hr=>⟨_,⟨hi.1,hr,rfl⟩,hQ x hx⟩
theorem MP{c:Int}(h:7<=c/\c<=13):K_ c=some (0,2,1)/\LB c=false:=by
 have:c=7\/c=8\/c=9\/c=10\/c=11\/c=12\/c=13:=by omega
 rcases this with rfl|rfl|rfl|rfl|rfl|rfl|rfl<;>exact⟨rfl,rfl⟩
theorem RA{c:Int}(h:22<=c/\c<=23):K_ c=some (0,2,1)/\LB c=false:=by
 have:c=22\/c=23:=by omega
 rcases this with rfl|rfl<;>exact⟨rfl,rfl⟩
theorem RC{c:Int}(h:25<=c/\c<=26):K_ c=some (0,0,1)/\LB c=false:=by
 have:c=25\/c=26:=by omega
 rcases this with rfl|rfl<;>exact⟨rfl,rfl⟩
theorem RB{c:Int}(h:42<=c/\c<=43):K_ c=some (0,1,0)/\LB c=false:=by
 have:c=42\/c=43:=by omega
 rcases this with rfl|rfl<;>exact⟨rfl,rfl⟩
theorem LF.via{c a ar t p h h':Int}{r:List Op}(hk:K_ c=some (ar,t,p)/\LB c=false)(ha:GD ar a=true)(h1:t<=h)(h2:h-t+p<=8)(hr:LF (h-t+p) r h'):LF h (⟨c,a⟩::r) h':=.cons hk.1 hk.2 ha h1 h2 hr
theorem int32{k:Int}(h:0<=k/\k<32):k=0\/k=1\/k=2\/k=3\/k=4\/k=5\/k=6\/k=7\/k=8\/k=9\/k=10\/k=11\/k=12\/k=13\/k=14\/k=15\/k=16\/k=17\/k=18\/k=19\/k=20\/k=21\/k=22\/k=23\/k=24\/k=25\/k=26\/k=27\/k=28\/k=29\/k=30\/k=31:=by omega
theorem CH{K:KT}(l:List Int)(a:Int)(c:List Op)(ab:Int)(hl:jE l)(ha:0<=a/\a<100000)(hc:c.length<=100000)(hab:0<=ab/\ab<3)
    (hk:∀a' c',(∃d,yI d/\c'=c++d)->a<=a'/\a'<=a+8->K (.ret (.tu [])) (xZ l a' c')):Z1 76 [.p 0 0,.d (.int .i64 ab)] (xZ l a c) K:=by
  refine sh0 Tryz.f76 ?_
  repeat' ((conv=>whnf);first|exact zf|refine zm ?_|refine zr0 ?_|refine(mH l _ _ hl ⟨by omega,by omega⟩ (λn hn=>?_))|refine zB ?_ ?_|intro _)
  rename_i n1 hn1
  conv=>whnf
  have h:=int32 (k:=n.tmod 32) ⟨by omega,by omega⟩
  generalize n.tmod 32=k at h⊢
  replace hn1:0<=n1.tmod 8/\n1.tmod 8<8:=by omega
  clear hn
  rcases h with rfl|rfl|rfl|rfl|rfl|rfl|rfl|rfl|rfl|rfl|rfl|rfl|rfl|rfl|rfl|rfl|rfl|rfl|rfl|rfl|rfl|rfl|rfl|rfl|rfl|rfl|rfl|rfl|rfl|rfl|rfl|rfl
  all_goals
    repeat' ((conv=>whnf);first|exact zf|refine zm ?_|refine zr0 ?_|refine(mH l _ _ hl ⟨by omega,by omega⟩ (λn hn=>?_))|refine(j7 l _ _ _ _ (by(try simp only[aM,aZ,ak]);omega) ?_)|refine(Eo l _ _ hl ⟨by omega,by omega⟩ (by(try simp only[aM,aZ,ak]);omega) (λn hn=>?_))|refine(Md l _ _ hl ⟨by omega,by omega⟩ (by(try simp only[aM,aZ,ak]);omega) (λn hn=>?_))|refine(DN l _ _ _ (by(try simp only[aM,aZ,ak]);omega) ?_)|refine zi0 ?_|refine(Tb (by omega) (by omega) (by omega) (by omega) (by omega) (λx hx=>?_))|refine zB ?_ ?_|refine aU (λhb=>?_) (λhb=>?_)|intro _)
  all_goals conv=>whnf
  all_goals first
    | (refine hk _ _ ⟨_, ?_, by first | (simp only [bI]; rfl) | rfl⟩ ⟨by omega, by omega⟩
       refine .inl ⟨?_,by simp,by first|(simp;done)|(simp;omega),by simp⟩
       repeat (first|exact .nil _|refine .cons rfl rfl (by first|rfl|(simp[GD];omega)) (by decide) (by decide) ?_|refine .via (MP (by omega)) rfl (by decide) (by decide) ?_|refine .via (RA (by omega)) rfl (by decide) (by decide) ?_|refine .via (RC (by omega)) rfl (by decide) (by decide) ?_|refine .via (RB (by omega)) rfl (by decide) (by decide) ?_))
    |(refine hk _ _ ⟨[⟨1,_⟩,⟨19,0⟩],.inr ⟨_,?_,?_,rfl⟩,bI c [⟨1,_⟩] [⟨19,0⟩]⟩ ⟨by omega,by omega⟩<;>omega)
    |fail
def Part(b:Int)(p:List Op):Prop:=
 ∃d,yI d/\(p=d\/p=[⟨2,1⟩,⟨16,b+2+d.length⟩]++d \/
  (d.getLast?.map (·.c)=some 19/\p=[⟨20,b+1+d.length⟩]++d++[⟨3,1⟩]) \/
  (d.getLast?.map (·.c)≠some 19/\p=[⟨20,b+3+d.length⟩]++d++[⟨21,0⟩,⟨15,b+4+d.length⟩,⟨3,1⟩]))
theorem yI.ne{d:List Op}(h:yI d):d≠[]:=by
 rcases h with h|⟨n,_,_,rfl⟩
 .exact h.2.1
 .simp
theorem yI.len{d:List Op}(h:yI d):0<d.length/\d.length<=8:=by
 refine⟨jH.2 h.ne,?_⟩;rcases h with h|⟨n,_,_,rfl⟩
 .exact h.2.2.2
 .simp
theorem De{K:KT}(l:List Int)(a:Int)(c:List Op)(x y:Int){rows:List (List D)}(hr:rows=c.map cV)(hc:c.length<=1000000)(hk:K (.ret (.tu [])) (xZ l a (c++[⟨x,y⟩]))):Z1 41 [.p 0 0,.d (.int .i64 x),.d (.int .i64 y)] [.cells [.d (.sl 1 (dE l)),.d (.int .i64 a),.os 1],.rows 2 rows] K:=by
 subst hr;exact j7 l a c x y hc hk
theorem yI.last{d:List Op}(h:yI d):∃o,d.getLast?=some o/\∀c:List Op,((c++d).map cV)[(((c++d).map cV).length-1:Int).toNat]?=some (cV o):=by
 have hl:=h.len;refine⟨d.getLast h.ne,List.getLast?_eq_some_getLast h.ne,λc=>?_⟩;have e:((((c++d).map cV).length:Int)-1).toNat=(c++d).length-1:=by simp only[aI];omega
 rw[e,aB,ae (by rw[aM];omega),aM,show c.length+d.length-1-c.length=d.length-1 by omega,List.getLast_eq_getElem,aA (by omega)];rfl
theorem xl(c d:List Op)(x:Op):((c++([x]++d)).map cV)[c.length]?=some (cV x):=by simp
theorem wy(c d:List Op)(x y:Op):((c++([x]++d)).map cV).set c.length (cV y)=(c++([y]++d)).map cV:=by
 rw[bt,bt,List.set_append_right _ _ (by simp)];simp
theorem nY{K:KT}(l:List Int)(a:Int)(c:List Op)(ab:Int)(hl:jE l)(ha:0<=a/\a<10000)(hc:c.length<=10000)(hab:0<=ab/\ab<3)
    (hk:∀a' c',(∃p,Part c.length p/\c'=c++p)->a<=a'/\a'<=a+20->K (.ret (.tu [])) (xZ l a' c')):Z1 40 [.p 0 0,.d (.int .i64 ab)] (xZ l a c) K:=by
  have hcl:(c.map cV).length=c.length:=by simp
  refine sh0 Tryz.f40 ?_
  repeat' ((conv=>whnf);first|exact zf|refine zm ?_|refine zr0 ?_|refine(mH l _ _ hl ⟨by omega,by omega⟩ (λn hn=>?_))|refine zB ?_ ?_|intro _)
  refine aU (λhb=>?_) (λhb=>?_)
  · skip
    repeat' ((conv=>whnf);first|exact zf|refine zm ?_|refine zr0 ?_|refine(j7 l _ _ _ _ (by(try simp only[aM,aZ,ak]);omega) ?_)|refine(CH l _ _ _ hl ⟨by omega,by omega⟩ (by(try simp only[aM,aZ,ak]);omega) hab (λa' c' hd ha'=>?_))|refine zB ?_ ?_|intro _)
    obtain⟨d,hd,rfl⟩:=hd
    obtain⟨hd1,hd2⟩:=hd.len
    obtain⟨o,ho,hrow⟩:=hd.last
    have hrow:=hrow (c++[(⟨20,0⟩:Op)])
    have hlen:((c++[(⟨20,0⟩:Op)]++d).map cV).length=c.length+1+d.length:=by simp only[aI,aM,aZ,ak]
    have hX:(((c++[(⟨20,0⟩:Op)]++d).map cV).length:Int)=c.length+1+d.length:=by rw[hlen];omega
    have hci:((((c.map cV).length:Nat):Int)).toNat=c.length:=by rw[pW,hcl]
    cases h19:(o.c==19) with
    |true=>
      have hth:d.getLast?.map (·.c)=some 19:=by rw[ho];simpa using h19
      repeat' ((conv=>whnf);first|exact zf|refine zm ?_|refine zi0 ?_|refine zB ?_ ?_|intro _)
      refine⟨cV o,hrow,?_⟩
      repeat' ((conv=>whnf);first|exact zf|refine zm ?_|refine(bf h19 ?_)|refine zB ?_ ?_|intro _)
      conv=>whnf
      refine⟨cV (⟨20,0⟩:Op),by rw[hci,bI];exact xl c d _,⟨rfl,rfl,rfl⟩,?_⟩
      have hs:((c++[(⟨20,0⟩:Op)]++d).map cV).set (((c.map cV).length:Nat):Int).toNat (cV (⟨20,(((c++[(⟨20,0⟩:Op)]++d).map cV).length:Int)⟩:Op))=(c++([(⟨20,(c.length:Int)+1+d.length⟩:Op)]++d)).map cV:=by
        rw[hci,hX,bI]
        exact wy c d _ _
      repeat' ((conv=>whnf);first|exact zf|refine zm ?_|refine zr0 ?_|refine(De l _ _ _ _ hs (by(try simp only[aM,aZ,ak]);omega) ?_)|refine zB ?_ ?_|intro _)
      conv=>whnf
      exact hk _ _ ⟨_,⟨d,hd,.inr (.inr (.inl ⟨hth,rfl⟩))⟩,by simp only[bI]⟩ ⟨by omega,by omega⟩
    |false=>
      have hth:d.getLast?.map (·.c)≠some 19:=by rw[ho];simpa using h19
      have hlen2:((c++[(⟨20,0⟩:Op)]++d++[(⟨21,0⟩:Op)]).map cV).length=c.length+2+d.length:=by simp only[aI,aM,aZ,ak];omega
      have hX2:(((c++[(⟨20,0⟩:Op)]++d++[(⟨21,0⟩:Op)]).map cV).length:Int)+2=c.length+4+d.length:=by rw[hlen2];omega
      repeat' ((conv=>whnf);first|exact zf|refine zm ?_|refine zi0 ?_|refine zB ?_ ?_|intro _)
      refine⟨cV o,hrow,?_⟩
      repeat' ((conv=>whnf);first|exact zf|refine zm ?_|refine(bB h19 ?_)|refine zr0 ?_|refine(j7 l _ _ _ _ (by(try simp only[aM,aZ,ak]);omega) ?_)|refine zi0 ?_|refine zB ?_ ?_|intro _)
      conv=>whnf
      have hs:((c++[(⟨20,0⟩:Op)]++d++[(⟨21,0⟩:Op)]++[(⟨15,(((c++[(⟨20,0⟩:Op)]++d++[(⟨21,0⟩:Op)]).map cV).length:Int)+2⟩:Op)]).map cV).set (((c.map cV).length:Nat):Int).toNat (cV (⟨20,(((c++[(⟨20,0⟩:Op)]++d++[(⟨21,0⟩:Op)]++[(⟨15,(((c++[(⟨20,0⟩:Op)]++d++[(⟨21,0⟩:Op)]).map cV).length:Int)+2⟩:Op)]).map cV).length:Int)⟩:Op))=(c++([(⟨20,(c.length:Int)+3+d.length⟩:Op)]++(d++([(⟨21,0⟩:Op)]++[(⟨15,(c.length:Int)+4+d.length⟩:Op)])))).map cV:=by
        rw[hci,hX2]
        have e:(((c++[(⟨20,0⟩:Op)]++d++[(⟨21,0⟩:Op)]++[(⟨15,(c.length:Int)+4+d.length⟩:Op)]).map cV).length:Int)=c.length+3+d.length:=by simp only[aI,aM,aZ,ak];omega
        rw[e]
        simp only[bI]
        exact wy c _ _ _
      refine⟨cV (⟨20,0⟩:Op),by rw[hci];simp only[bI];exact xl c _ _,⟨rfl,rfl,rfl⟩,?_⟩
      repeat' ((conv=>whnf);first|exact zf|refine zm ?_|refine zr0 ?_|refine(De l _ _ _ _ hs (by(try simp only[aM,aZ,ak]);omega) ?_)|refine zB ?_ ?_|intro _)
      conv=>whnf
      exact hk _ _ ⟨_,⟨d,hd,.inr (.inr (.inr ⟨hth,rfl⟩))⟩,by simp only[bI,List.cons_append,List.nil_append]⟩ ⟨by omega,by omega⟩
  · refine aU (λhb2=>?_) (λhb2=>?_)
    · skip
      repeat' ((conv=>whnf);first|exact zf|refine zm ?_|refine zr0 ?_|refine(DN l _ _ _ (by(try simp only[aM,aZ,ak]);omega) ?_)|refine(j7 l _ _ _ _ (by(try simp only[aM,aZ,ak]);omega) ?_)|refine(CH l _ _ _ hl ⟨by omega,by omega⟩ (by(try simp only[aM,aZ,ak]);omega) hab (λa' c' hd ha'=>?_))|refine zB ?_ ?_|intro _)
      obtain⟨d,hd,rfl⟩:=hd
      obtain⟨hd1,hd2⟩:=hd.len
      have hlen:((c++[(⟨2,1⟩:Op)]++[(⟨16,0⟩:Op)]++d).map cV).length=c.length+2+d.length:=by simp only[aI,aM,aZ,ak]
      have hX:(((c++[(⟨2,1⟩:Op)]++[(⟨16,0⟩:Op)]++d).map cV).length:Int)=c.length+2+d.length:=by rw[hlen];omega
      have hci:((((c.map cV).length:Nat):Int)+1).toNat=(c++[(⟨2,1⟩:Op)]).length:=by rw[hcl,aM];simp only[aZ,ak];omega
      have hs:((c++[(⟨2,1⟩:Op)]++[(⟨16,0⟩:Op)]++d).map cV).set ((((c.map cV).length:Nat):Int)+1).toNat (cV (⟨16,(((c++[(⟨2,1⟩:Op)]++[(⟨16,0⟩:Op)]++d).map cV).length:Int)⟩:Op))=(c++(([⟨2,1⟩,⟨16,(c.length:Int)+2+d.length⟩]:List Op)++d)).map cV:=by
        rw[hci,hX,bI (c++[(⟨2,1⟩:Op)])]
        rw[wy (c++[(⟨2,1⟩:Op)]) d _ _,bI]
        rfl
      repeat' ((conv=>whnf);first|exact zf|refine zm ?_|refine zi0 ?_|refine zB ?_ ?_|intro _)
      conv=>whnf
      refine⟨cV (⟨16,0⟩:Op),by rw[hci,bI (c++[(⟨2,1⟩:Op)])];exact xl (c++[(⟨2,1⟩:Op)]) d _,⟨rfl,rfl,rfl⟩,?_⟩
      repeat' ((conv=>whnf);first|exact zf|refine zm ?_|refine zB ?_ ?_|intro _)
      conv=>whnf
      have h2:=hk a' (c++(([⟨2,1⟩,⟨16,(c.length:Int)+2+d.length⟩]:List Op)++d)) ⟨_,⟨d,hd,.inr (.inl rfl)⟩,rfl⟩ ⟨by omega,by omega⟩
      unfold xZ at h2
      rw[<-hs]at h2
      exact h2
    · skip
      repeat' ((conv=>whnf);first|exact zf|refine zm ?_|refine zr0 ?_|refine(CH l _ _ _ hl ⟨by omega,by omega⟩ (by(try simp only[aM,aZ,ak]);omega) hab (λa' c' hd ha'=>?_))|refine zB ?_ ?_|intro _)
      conv=>whnf
      obtain⟨d,hd,rfl⟩:=hd
      exact hk _ _ ⟨d,⟨d,hd,.inl rfl⟩,rfl⟩ ⟨by omega,by omega⟩
structure V8 where
  s:List UInt8
  i:List UInt8
def lY:List V8:=[⟨[],[]⟩,⟨[1],[]⟩,⟨[2],[]⟩,⟨[1,2],[]⟩,⟨[3],[]⟩,⟨[],[1]⟩,⟨[1],[1]⟩,⟨[0],[]⟩]
def Qc(l:V8):List D:=[.str l.s,.str l.i]
def R7(l:V8):Va:=⟨2,0,[],l.s,l.i⟩
def qP:List Int:=[0,1,2,3,4,5,9,14]
def NV:List Va:=qP.map num++lY.map R7
theorem zb:Z0 20 [] (.d (.sl 2 (lY.map Qc))):=by
 refine sh0 Tryz.f20 ?_
 repeat' ((conv=>whnf);first|exact zf|refine zm ?_|refine zB ?_ ?_|intro _)
inductive mw:List Op->Nat->Prop
  |nil:mw [] 0
  |snoc {c p:List Op} {k:Nat} (h:mw c k) (hp:Part c.length p):mw (c++p) (k+1)
def Kr(c:List Op):Prop:=∃(p:List Op)(k:Nat)(n:Int),mw p k/\1<=k/\k<=12/\0<=n/\n<8/\c=p++[⟨2,n⟩,⟨18,0⟩]
def lL(f:Fn):Prop:=f.args=1/\f.vars=7/\Kr f.code
def de(im:Im):Prop:=im.cs=NV/\im.fs.length=3/\∀f∈im.fs,lL f
def g1(i:Nat):H:=
 match i with
 |0=>[.cells [.nl 5,.nl 3],.cells [.nl 5,.nl 3]]
 |i+1=>[.cells [.nl 5,.nl 3],.cells [.os 2,.nl 3],.rows 5 (((qP.take (i+1)).map num).map b9)]
theorem Part.len{b:Int}{p:List Op}(h:Part b p):p.length<=12:=by
 obtain⟨d,hd,h⟩:=h;have:=hd.len;rcases h with rfl|rfl|⟨_,rfl⟩|⟨_,rfl⟩<;>simp<;>omega
def cB:B:=.rows 5 (NV.map b9)
def g3(i:Nat)(fs:List Fn):H:=
 match i with
 |0=>[.cells [.nl 5,.nl 3],.cells [.os 2,.nl 3],cB]
 |_+1=>[.cells [.nl 5,.nl 3],.cells [.os 2,.os 5],cB,.no,.no,.rows 3 (fs.map bc)]
theorem Jn(fs:List Fn)(f:Fn){r:List (List D)}(h:r=fs.map bc++[bc f]):B.rows 3 r=B.rows 3 ((fs++[f]).map bc):=by
 rw[h,bt];rfl
def YI(l:List Int)(k:Nat)(a:Int)(c:List Op):H:=
 match k with
 |0=>[.cells [.nl 5,.nl 3],.cells [.os 2,.nl 3],cB,.cells [.d (.sl 1 (dE l)),.d (.int .i64 0),.nl 2]]
 |_+1=>[.cells [.nl 5,.nl 3],.cells [.os 2,.nl 3],cB,.cells [.d (.sl 1 (dE l)),.d (.int .i64 a),.os 4],.rows 2 (c.map cV)]
def YH(fs:List Fn)(l:List Int)(k:Nat)(a:Int)(c:List Op):H:=
 match k with
 |0=>[.cells [.nl 5,.nl 3],.cells [.os 2,.os 5],cB,.no,.no,.rows 3 (fs.map bc),.cells [.d (.sl 1 (dE l)),.d (.int .i64 0),.nl 2]]
 |_+1=>[.cells [.nl 5,.nl 3],.cells [.os 2,.os 5],cB,.no,.no,.rows 3 (fs.map bc),.cells [.d (.sl 1 (dE l)),.d (.int .i64 a),.os 7],.rows 2 (c.map cV)]
def PI(q:Nat×Int×List Op):Prop:=mw q.2.2 q.1/\q.1<=12/\0<=q.2.1/\q.2.1<=20*q.1/\q.2.2.length<=12*q.1
theorem PI.step{k:Nat}{a a':Int}{c c':List Op}(h:PI (k,a,c))(hk:k<12)(hc:∃p,Part c.length p/\c'=c++p)(ha:a<=a'/\a'<=a+20):PI (k+1,a',c'):=by
 obtain⟨h1,h2,h3,h4,h5⟩:=h;obtain⟨p,hp,rfl⟩:=hc;have hpl:=hp.len;simp only at h1 h2 h3 h4 h5;exact⟨.snoc h1 hp,hk,by simp only;omega,by simp only;omega,by simp only[aM];omega⟩
theorem PI.oG{k:Nat}{a:Int}{c:List Op}(h:PI (k+1,a,c)){n:Int}(hn:0<=n/\n<8):lL ⟨1,7,c++[⟨2,n⟩]++[⟨18,0⟩]⟩:=
 ⟨rfl,rfl,c,k+1,n,h.1,Nat.le_add_left 1 k,h.2.1,hn.1,hn.2,by rw[bI];rfl⟩
theorem Ra {K : Out → H → Prop} (L : List (List Int)) (hL : ∀ l ∈ L, jE l) (hk : ∀ im, de im → K (.ret (sC im)) []) : Z1 19 [.d (.sl 1 (L.map fun l => [D.sl 1 (dE l)]))] [] K := by
  generalize hrows:(L.map λl=>[D.sl 1 (dE l)])=rowsL
  refine sh0 Tryz.f19 ?_
  repeat' ((conv=>whnf);first|exact zf|refine zm ?_|refine zB ?_ ?_|intro _)
  conv=>whnf
  refine bA [(0,.d (.sl 1 rowsL)),(2,.p 0 0),(3,.p 1 0),(12,.d (.sl 1 (qP.map λx=>[D.int .i64 x]))),(13,.d (.int .i64 8))] (λi:Nat=>i<=8) (λi=>[(14,.d (.int .i64 i))]) g1 (λi=>8-i) 0 (aY _) ?_ ?_ ?_ (λi hi=>?_)
  · exact zzz
  · exact⟨aV rfl,aV rfl,trivial⟩
  · exact zx0
  have hn8:∀i:Nat,i<8->∃x,qP[i]?=some x/\(qP.map λx=>[D.int .i64 x])[i]?=some [D.int .i64 x]:=λi hi=>⟨qP[i]'hi,aA hi,by rw[aB,aA (show i<qP.length from hi)];rfl⟩
  rcases i with _|i
  · skip
    repeat' ((conv=>whnf);first|exact zf|refine zm ?_|refine zB ?_ ?_|intro _)
    refine⟨[.int .i64 0],⟨by omega,rfl,rfl⟩,?_⟩
    repeat' ((conv=>whnf);first|exact zf|refine zm ?_|refine zi0 ?_|refine zB ?_ ?_|intro _)
    exact⟨1,by omega,by omega,zzz,⟨aV rfl,aV rfl,aV rfl,trivial⟩,rfl⟩
  · have hi:i+1<=8:=hi
    have hcl:(((qP.take (i+1)).map num).map b9).length=i+1:=by simp only[aI,a_];exact Nat.min_eq_left hi
    repeat' ((conv=>whnf);first|exact zf|refine zm ?_|refine zB ?_ ?_|intro _)
    refine aU (λhlt=>?_) (λhge=>?_)
    · have hlt:i+1<8:=by have:=θ hlt;omega
      obtain⟨x,hx,hrow⟩:=hn8 (i+1) hlt
      have hs:((qP.take (i+2)).map num).map b9=((qP.take (i+1)).map num).map b9++[b9 (num x)]:=by
        rw[bV,hx]
        simp only[Option.toList,bt,dI,gO]
      repeat' ((conv=>whnf);first|exact zf|refine zm ?_|refine zB ?_ ?_|intro _)
      refine⟨[.int .i64 x],⟨by omega,by rw[show((i+1:Nat):Int).toNat=i+1 by omega];exact hrow,rfl⟩,?_⟩
      repeat' ((conv=>whnf);first|exact zf|refine zm ?_|refine zi0 ?_|refine zB ?_ ?_|intro _)
      exact⟨i+2,by omega,by omega,zzz,⟨aV rfl,aV rfl,aV (κ (B.rows 5) hs.symm),trivial⟩,rfl⟩
    · have hge:i=7:=by have:=ι hge;omega
      subst hge
      repeat' ((conv=>whnf);first|exact zf|refine zm ?_|refine zB ?_ ?_|intro _)
      conv=>whnf
      refine bA [(0,.d (.sl 1 rowsL)),(2,.p 0 0),(3,.p 1 0)] (λj:Nat=>j<=8) (λj=>[(6,.d (.int .i64 j))]) (λj=>[.cells [.nl 5,.nl 3],.cells [.os 2,.nl 3],.rows 5 ((qP.map num++(lY.take j).map R7).map b9)]) (λj=>8-j) 0 (aY _) ?_ ?_ ?_ (λj hj=>?_)
      · exact zzz
      · exact⟨aV rfl,aV rfl,aV rfl,trivial⟩
      · exact zx0
      have hcl2:((qP.map num++(lY.take j).map R7).map b9).length=8+j:=by
        simp only[aI,aM,a_]
        rw[Nat.min_eq_left (show j<=lY.length from hj)]
        rfl
      repeat' ((conv=>whnf);first|exact zf|refine zm ?_|refine zB ?_ ?_|intro _)
      refine aU (λhlt=>?_) (λhge=>?_)
      · have hlt:j<8:=by have:=θ hlt;omega
        obtain⟨x,hx⟩:∃x,lY[j]?=some x:=⟨lY[j]'hlt,aA hlt⟩
        have hs:(qP.map num++(lY.take (j+1)).map R7).map b9=(qP.map num++(lY.take j).map R7).map b9++[b9 (R7 x)]:=by
          rw[bV,hx]
          simp only[Option.toList,bt,dI,gO,bI]
        repeat' ((conv=>whnf);first|exact zf|refine zm ?_|refine zc zb ?_|refine zB ?_ ?_|intro _)
        refine⟨Qc x,⟨by omega,by simp[hx],rfl⟩,?_⟩
        repeat' ((conv=>whnf);first|exact zf|refine zm ?_|refine zi0 ?_|refine zB ?_ ?_|intro _)
        exact⟨j+1,by omega,by omega,zzz,⟨aV rfl,aV rfl,aV (κ (B.rows 5) hs.symm),trivial⟩,rfl⟩
      · have hge:j=8:=by have:=ι hge;omega
        subst hge
        repeat' ((conv=>whnf);first|exact zf|refine zm ?_|refine zB ?_ ?_|intro _)
        conv=>whnf
        refine bA [(0,.d (.sl 1 rowsL)),(2,.p 0 0),(3,.p 1 0)] (λp:Nat×List Fn=>p.1<=3/\p.2.length=p.1/\∀f∈p.2,lL f) (λp=>[(7,.d (.int .i64 p.1))]) (λp=>g3 p.1 p.2) (λp=>3-p.1) (0,[]) ⟨aY _,rfl,λ_ h=>nomatch h⟩ ?_ ?_ ?_ (λp hp=>?_)
        · exact zzz
        · exact⟨aV rfl,aV rfl,aV rfl,trivial⟩
        · exact zx0
        obtain⟨i,fs⟩:=p
        obtain⟨hi3,hfl,hfs⟩:=hp
        have hi3:i<=3:=hi3
        have hfl:fs.length=i:=hfl
        have hfs:∀f∈fs,lL f:=hfs
        have hrl:rowsL.length=L.length:=by rw[<-hrows,aI]
        have hget:∀k,k<L.length->∃l,jE l/\rowsL[k]?=some [D.sl 1 (dE l)]:=λk hk=>⟨L[k],hL _ (dR hk),by rw[<-hrows,aB,aA hk];rfl⟩
        rcases i with _|i
        · skip
          repeat' ((conv=>whnf);first|exact zf|refine zm ?_|refine zB ?_ ?_|intro _)
          refine aU (λhin=>?_) (λhout=>?_)
          · have hin:0<L.length:=by have:=θ hin;omega
            obtain⟨l,hl,hrow⟩:=hget 0 hin
            repeat' ((conv=>whnf);first|exact zf|refine zm ?_|refine zB ?_ ?_|intro _)
            refine⟨[D.sl 1 (dE l)],⟨by omega,hrow,rfl⟩,?_⟩
            repeat' ((conv=>whnf);first|exact zf|refine zm ?_|refine zi0 ?_|refine zB ?_ ?_|intro _)
            conv=>whnf
            refine bA [(0,.d (.sl 1 rowsL)),(2,.p 0 0),(3,.p 1 0),(7,.d (.int .i64 0)),(8,.p 3 0),(9,.d (.int .i64 (1)))] PI (λq=>[(10,.d (.int .i64 q.1))]) (λq=>YI (l) q.1 q.2.1 q.2.2) (λq=>12-q.1) (0,0,[]) ⟨.nil,by decide,by decide,by decide,by decide⟩ ?_ ?_ ?_ (λq hq=>?_)
            · exact zzz
            · exact⟨aV rfl,aV rfl,aV rfl,aV rfl,trivial⟩
            · exact zx0
            obtain⟨k,a,c⟩:=q
            obtain⟨q1,q2,q3,q4,q5⟩:=hq
            have hul:=gg (l)
            have htd:0<=((dE (l)).length:Int).tdiv 6:=Int.tdiv_nonneg (by omega) (by decide)
            rcases k with _|k
            · skip
              repeat' ((conv=>whnf);first|exact zf|refine zm ?_|refine zi0 ?_|refine zB ?_ ?_|intro _)
              refine aU (λhb=>?_) (λhb=>absurd (ι hb) (by omega))
              repeat' ((conv=>whnf);first|exact zf|refine zm ?_|refine zr0 ?_|refine(Sat.own (by decide) 0 2 rfl rfl ?_)|refine(nY (l) 0 [] _ hl ⟨by omega,by omega⟩ (by decide) ⟨by decide,by decide⟩ (λa' c' hc' ha'=>?_))|refine zB ?_ ?_|intro _)
              repeat' ((conv=>whnf);first|exact zf|refine zm ?_|refine zi0 ?_|refine zB ?_ ?_|intro _)
              exact⟨(1,a',c'),PI.step (k:=0) (a:=0) (c:=[]) ⟨.nil,by decide,by decide,by decide,by decide⟩ (by decide) hc' ha',(by show(12-1:Nat)<12-0;decide),zzz,⟨aV rfl,aV rfl,aV rfl,aV rfl,aV rfl,trivial⟩,rfl⟩
            · have q3:0<=a:=q3
              have q4:a<=20*((k+1:Nat):Int):=q4
              have q5:c.length<=12*(k+1):=q5
              have q2:k+1<=12:=q2
              have q1:mw c (k+1):=q1
              have hcl2:(c.map cV).length=c.length:=by simp
              repeat' ((conv=>whnf);first|exact zf|refine(jM [4] ?_)|refine zm ?_|refine zi0 ?_|refine zr0 ?_|refine(nY (l) a c _ hl ⟨by omega,by omega⟩ (by omega) ⟨by decide,by decide⟩ (λa' c' hc' ha'=>?_))|refine(mH (l) _ _ hl ⟨by omega,by omega⟩ (λn hn=>?_))|refine(j7 (l) _ _ _ _ (by(try simp only[aM,aZ,ak]);omega) ?_)|refine zB ?_ ?_|refine aU (λhb=>?_) (λhb=>?_)|intro _)
              · have hk12:k+2<=12:=by have:=θ (by assumption:decide (((k+1:Nat):Int)<12)=true);omega
                exact⟨(k+2,a',c'),PI.step ⟨q1,q2,q3,q4,q5⟩ (by omega) hc' ha',(by show 12-(k+2)<12-(k+1);omega),zzz,⟨aV rfl,aV rfl,aV rfl,aV rfl,aV rfl,trivial⟩,rfl⟩
              all_goals
                exact⟨(1,[⟨1,7,c++[(⟨2,n.tmod 8⟩:Op)]++[(⟨18,0⟩:Op)]⟩]),⟨(by show(1:Nat)<=3;decide),rfl,λf hf=>by rw[aF.1 hf];exact PI.oG ⟨q1,q2,q3,q4,q5⟩ ⟨by omega,by omega⟩⟩,(by show(3-1:Nat)<3-0;decide),zzz,⟨aV rfl,aV rfl,aV rfl,aV rfl,trivial⟩,rfl⟩
          · skip
            repeat' ((conv=>whnf);first|exact zf|refine zm ?_|refine zi0 ?_|refine zB ?_ ?_|intro _)
            conv=>whnf
            obtain⟨l,hl,hl0⟩:∃l:List Int,jE l/\dE l=[]:=⟨[],(λ_ h=>nomatch h),rfl⟩
            refine bA [(0,.d (.sl 1 rowsL)),(2,.p 0 0),(3,.p 1 0),(7,.d (.int .i64 0)),(8,.p 3 0),(9,.d (.int .i64 (1)))] PI (λq=>[(10,.d (.int .i64 q.1))]) (λq=>YI (l) q.1 q.2.1 q.2.2) (λq=>12-q.1) (0,0,[]) ⟨.nil,by decide,by decide,by decide,by decide⟩ ?_ ?_ ?_ (λq hq=>?_)
            · exact zzz
            · exact⟨aV rfl,aV rfl,aV rfl,.inr ⟨(by rw[hl0];exact rfl),ky rfl,ky rfl,trivial⟩,trivial⟩
            · exact zx0
            obtain⟨k,a,c⟩:=q
            obtain⟨q1,q2,q3,q4,q5⟩:=hq
            have hul:=gg (l)
            have htd:0<=((dE (l)).length:Int).tdiv 6:=Int.tdiv_nonneg (by omega) (by decide)
            rcases k with _|k
            · skip
              repeat' ((conv=>whnf);first|exact zf|refine zm ?_|refine zi0 ?_|refine zB ?_ ?_|intro _)
              refine aU (λhb=>?_) (λhb=>absurd (ι hb) (by omega))
              repeat' ((conv=>whnf);first|exact zf|refine zm ?_|refine zr0 ?_|refine(Sat.own (by decide) 0 2 rfl rfl ?_)|refine(nY (l) 0 [] _ hl ⟨by omega,by omega⟩ (by decide) ⟨by decide,by decide⟩ (λa' c' hc' ha'=>?_))|refine zB ?_ ?_|intro _)
              repeat' ((conv=>whnf);first|exact zf|refine zm ?_|refine zi0 ?_|refine zB ?_ ?_|intro _)
              exact⟨(1,a',c'),PI.step (k:=0) (a:=0) (c:=[]) ⟨.nil,by decide,by decide,by decide,by decide⟩ (by decide) hc' ha',(by show(12-1:Nat)<12-0;decide),zzz,⟨aV rfl,aV rfl,aV rfl,aV rfl,aV rfl,trivial⟩,rfl⟩
            · have q3:0<=a:=q3
              have q4:a<=20*((k+1:Nat):Int):=q4
              have q5:c.length<=12*(k+1):=q5
              have q2:k+1<=12:=q2
              have q1:mw c (k+1):=q1
              have hcl2:(c.map cV).length=c.length:=by simp
              repeat' ((conv=>whnf);first|exact zf|refine(jM [4] ?_)|refine zm ?_|refine zi0 ?_|refine zr0 ?_|refine(nY (l) a c _ hl ⟨by omega,by omega⟩ (by omega) ⟨by decide,by decide⟩ (λa' c' hc' ha'=>?_))|refine(mH (l) _ _ hl ⟨by omega,by omega⟩ (λn hn=>?_))|refine(j7 (l) _ _ _ _ (by(try simp only[aM,aZ,ak]);omega) ?_)|refine zB ?_ ?_|refine aU (λhb=>?_) (λhb=>?_)|intro _)
              · have hk12:k+2<=12:=by have:=θ (by assumption:decide (((k+1:Nat):Int)<12)=true);omega
                exact⟨(k+2,a',c'),PI.step ⟨q1,q2,q3,q4,q5⟩ (by omega) hc' ha',(by show 12-(k+2)<12-(k+1);omega),zzz,⟨aV rfl,aV rfl,aV rfl,aV rfl,aV rfl,trivial⟩,rfl⟩
              all_goals
                exact⟨(1,[⟨1,7,c++[(⟨2,n.tmod 8⟩:Op)]++[(⟨18,0⟩:Op)]⟩]),⟨(by show(1:Nat)<=3;decide),rfl,λf hf=>by rw[aF.1 hf];exact PI.oG ⟨q1,q2,q3,q4,q5⟩ ⟨by omega,by omega⟩⟩,(by show(3-1:Nat)<3-0;decide),zzz,⟨aV rfl,aV rfl,aV rfl,aV rfl,trivial⟩,rfl⟩
        · have hfl3:(fs.map bc).length=i+1:=by rw[aI,hfl]
          repeat' ((conv=>whnf);first|exact zf|refine zm ?_|refine zB ?_ ?_|intro _)
          refine aU (λhlt=>?_) (λhge=>?_)
          · have hlt:i+1<3:=by have:=θ hlt;omega
            have hab:0<=(((i+1:Nat):Int)+1).tmod 3/\(((i+1:Nat):Int)+1).tmod 3<3:=by
              rw[Int.tmod_eq_emod_of_nonneg (by omega)]
              omega
            repeat' ((conv=>whnf);first|exact zf|refine zm ?_|refine zB ?_ ?_|intro _)
            refine aU (λhin=>?_) (λhout=>?_)
            · have hin:i+1<L.length:=by have:=θ hin;omega
              obtain⟨l,hl,hrow⟩:=hget (i+1) hin
              repeat' ((conv=>whnf);first|exact zf|refine zm ?_|refine zB ?_ ?_|intro _)
              refine⟨[D.sl 1 (dE l)],⟨by omega,by rw[show((i+1:Nat):Int).toNat=i+1 by omega];exact hrow,rfl⟩,?_⟩
              repeat' ((conv=>whnf);first|exact zf|refine zm ?_|refine zi0 ?_|refine zB ?_ ?_|intro _)
              conv=>whnf
              refine bA [(0,.d (.sl 1 rowsL)),(2,.p 0 0),(3,.p 1 0),(7,.d (.int .i64 ((i+1:Nat):Int))),(8,.p 6 0),(9,.d (.int .i64 ((((i+1:Nat):Int)+1).tmod 3)))] PI (λq=>[(10,.d (.int .i64 q.1))]) (λq=>YH fs (l) q.1 q.2.1 q.2.2) (λq=>12-q.1) (0,0,[]) ⟨.nil,by decide,by decide,by decide,by decide⟩ ?_ ?_ ?_ (λq hq=>?_)
              · exact zzz
              · exact⟨aV rfl,aV rfl,aV rfl,aV rfl,aV rfl,trivial⟩
              · exact zx0
              obtain⟨k,a,c⟩:=q
              obtain⟨q1,q2,q3,q4,q5⟩:=hq
              have hul:=gg (l)
              have htd:0<=((dE (l)).length:Int).tdiv 6:=Int.tdiv_nonneg (by omega) (by decide)
              rcases k with _|k
              · skip
                repeat' ((conv=>whnf);first|exact zf|refine zm ?_|refine zi0 ?_|refine zB ?_ ?_|intro _)
                refine aU (λhb=>?_) (λhb=>absurd (ι hb) (by omega))
                repeat' ((conv=>whnf);first|exact zf|refine zm ?_|refine zr0 ?_|refine(Sat.own (by decide) 0 2 rfl rfl ?_)|refine(nY (l) 0 [] _ hl ⟨by omega,by omega⟩ (by decide) hab (λa' c' hc' ha'=>?_))|refine zB ?_ ?_|intro _)
                repeat' ((conv=>whnf);first|exact zf|refine zm ?_|refine zi0 ?_|refine zB ?_ ?_|intro _)
                exact⟨(1,a',c'),PI.step (k:=0) (a:=0) (c:=[]) ⟨.nil,by decide,by decide,by decide,by decide⟩ (by decide) hc' ha',(by show(12-1:Nat)<12-0;decide),zzz,⟨aV rfl,aV rfl,aV rfl,aV rfl,aV rfl,aV rfl,trivial⟩,rfl⟩
              · have q3:0<=a:=q3
                have q4:a<=20*((k+1:Nat):Int):=q4
                have q5:c.length<=12*(k+1):=q5
                have q2:k+1<=12:=q2
                have q1:mw c (k+1):=q1
                have hcl2:(c.map cV).length=c.length:=by simp
                repeat' ((conv=>whnf);first|exact zf|refine(jM [7] ?_)|refine zm ?_|refine zi0 ?_|refine zr0 ?_|refine(nY (l) a c _ hl ⟨by omega,by omega⟩ (by omega) hab (λa' c' hc' ha'=>?_))|refine(mH (l) _ _ hl ⟨by omega,by omega⟩ (λn hn=>?_))|refine(j7 (l) _ _ _ _ (by(try simp only[aM,aZ,ak]);omega) ?_)|refine zB ?_ ?_|refine aU (λhb=>?_) (λhb=>?_)|intro _)
                · have hk12:k+2<=12:=by have:=θ (by assumption:decide (((k+1:Nat):Int)<12)=true);omega
                  exact⟨(k+2,a',c'),PI.step ⟨q1,q2,q3,q4,q5⟩ (by omega) hc' ha',(by show 12-(k+2)<12-(k+1);omega),zzz,⟨aV rfl,aV rfl,aV rfl,aV rfl,aV rfl,aV rfl,trivial⟩,rfl⟩
                all_goals
                  exact⟨(i+2,fs++[⟨1,7,c++[(⟨2,n.tmod 8⟩:Op)]++[(⟨18,0⟩:Op)]⟩]),⟨(by show i+2<=3;omega),(by simp only[aM,aZ,ak];omega),λf hf=>(aT.1 hf).elim (hfs f) λhf=>by rw[aF.1 hf];exact PI.oG ⟨q1,q2,q3,q4,q5⟩ ⟨by omega,by omega⟩⟩,(by show 3-(i+2)<3-(i+1);omega),zzz,⟨aV rfl,aV rfl,aV rfl,aV (Jn fs ⟨1,7,c++[(⟨2,n.tmod 8⟩:Op)]++[(⟨18,0⟩:Op)]⟩ rfl),trivial⟩,rfl⟩
            · skip
              repeat' ((conv=>whnf);first|exact zf|refine zm ?_|refine zi0 ?_|refine zB ?_ ?_|intro _)
              conv=>whnf
              obtain⟨l,hl,hl0⟩:∃l:List Int,jE l/\dE l=[]:=⟨[],(λ_ h=>nomatch h),rfl⟩
              refine bA [(0,.d (.sl 1 rowsL)),(2,.p 0 0),(3,.p 1 0),(7,.d (.int .i64 ((i+1:Nat):Int))),(8,.p 6 0),(9,.d (.int .i64 ((((i+1:Nat):Int)+1).tmod 3)))] PI (λq=>[(10,.d (.int .i64 q.1))]) (λq=>YH fs (l) q.1 q.2.1 q.2.2) (λq=>12-q.1) (0,0,[]) ⟨.nil,by decide,by decide,by decide,by decide⟩ ?_ ?_ ?_ (λq hq=>?_)
              · exact zzz
              · exact⟨aV rfl,aV rfl,aV rfl,aV rfl,.inr ⟨(by rw[hl0];exact rfl),ky rfl,ky rfl,trivial⟩,trivial⟩
              · exact zx0
              obtain⟨k,a,c⟩:=q
              obtain⟨q1,q2,q3,q4,q5⟩:=hq
              have hul:=gg (l)
              have htd:0<=((dE (l)).length:Int).tdiv 6:=Int.tdiv_nonneg (by omega) (by decide)
              rcases k with _|k
              · skip
                repeat' ((conv=>whnf);first|exact zf|refine zm ?_|refine zi0 ?_|refine zB ?_ ?_|intro _)
                refine aU (λhb=>?_) (λhb=>absurd (ι hb) (by omega))
                repeat' ((conv=>whnf);first|exact zf|refine zm ?_|refine zr0 ?_|refine(Sat.own (by decide) 0 2 rfl rfl ?_)|refine(nY (l) 0 [] _ hl ⟨by omega,by omega⟩ (by decide) hab (λa' c' hc' ha'=>?_))|refine zB ?_ ?_|intro _)
                repeat' ((conv=>whnf);first|exact zf|refine zm ?_|refine zi0 ?_|refine zB ?_ ?_|intro _)
                exact⟨(1,a',c'),PI.step (k:=0) (a:=0) (c:=[]) ⟨.nil,by decide,by decide,by decide,by decide⟩ (by decide) hc' ha',(by show(12-1:Nat)<12-0;decide),zzz,⟨aV rfl,aV rfl,aV rfl,aV rfl,aV rfl,aV rfl,trivial⟩,rfl⟩
              · have q3:0<=a:=q3
                have q4:a<=20*((k+1:Nat):Int):=q4
                have q5:c.length<=12*(k+1):=q5
                have q2:k+1<=12:=q2
                have q1:mw c (k+1):=q1
                have hcl2:(c.map cV).length=c.length:=by simp
                repeat' ((conv=>whnf);first|exact zf|refine(jM [7] ?_)|refine zm ?_|refine zi0 ?_|refine zr0 ?_|refine(nY (l) a c _ hl ⟨by omega,by omega⟩ (by omega) hab (λa' c' hc' ha'=>?_))|refine(mH (l) _ _ hl ⟨by omega,by omega⟩ (λn hn=>?_))|refine(j7 (l) _ _ _ _ (by(try simp only[aM,aZ,ak]);omega) ?_)|refine zB ?_ ?_|refine aU (λhb=>?_) (λhb=>?_)|intro _)
                · have hk12:k+2<=12:=by have:=θ (by assumption:decide (((k+1:Nat):Int)<12)=true);omega
                  exact⟨(k+2,a',c'),PI.step ⟨q1,q2,q3,q4,q5⟩ (by omega) hc' ha',(by show 12-(k+2)<12-(k+1);omega),zzz,⟨aV rfl,aV rfl,aV rfl,aV rfl,aV rfl,aV rfl,trivial⟩,rfl⟩
                all_goals
                  exact⟨(i+2,fs++[⟨1,7,c++[(⟨2,n.tmod 8⟩:Op)]++[(⟨18,0⟩:Op)]⟩]),⟨(by show i+2<=3;omega),(by simp only[aM,aZ,ak];omega),λf hf=>(aT.1 hf).elim (hfs f) λhf=>by rw[aF.1 hf];exact PI.oG ⟨q1,q2,q3,q4,q5⟩ ⟨by omega,by omega⟩⟩,(by show 3-(i+2)<3-(i+1);omega),zzz,⟨aV rfl,aV rfl,aV rfl,aV (Jn fs ⟨1,7,c++[(⟨2,n.tmod 8⟩:Op)]++[(⟨18,0⟩:Op)]⟩ rfl),trivial⟩,rfl⟩
          · have hge:i=2:=by have:=ι hge;omega
            subst hge
            repeat' ((conv=>whnf);first|exact zf|refine zm ?_|refine zB ?_ ?_|intro _)
            exact hk ⟨NV,fs⟩ ⟨rfl,hfl,hfs⟩
theorem tX(l:Lb)(hl:cC l)(hr:pN l=true):Z0 91 [jh ⟨2,0,[],l.s,l.i⟩] (.d (.bool true)):=by
 have h1:=i_ l hl;rw[hr]at h1;refine s91.go (keep:=false) rfl ?_
 repeat' ((conv=>whnf);first|exact zf|refine zm ?_|refine zc h1 ?_|refine(bf (by simp) ?_)|refine zB ?_ ?_|intro _)
def lb(l:V8):Lb:=⟨l.s,l.i⟩
theorem DR:lY.all (λl=>pN (lb l))=true:=zx0
theorem RN(l:V8)(h:l∈lY):RO (R7 l):=by
 have h1:=aP.1 DR l h;have h2:l.s.length<=2/\l.i.length<=2:=by
  have:lY.all (λl=>decide (l.s.length<=2)&&decide (l.i.length<=2))=true:=zx0
  have:=aP.1 this l h;simpa using this
 exact⟨.inr rfl,tX (lb l) ⟨aX h2.1 (by decide),aX h2.2 (by decide)⟩ h1⟩
theorem Dp:∀v∈NV,RO v:=by
 intro v hv;rcases aT.1 hv with h|h
 .obtain⟨x,_,rfl⟩:=bQ.1 h;exact⟨.inl rfl,tY x⟩
 .obtain⟨x,hx,rfl⟩:=bQ.1 h;exact RN x hx
theorem de.ok{im:Im}(h:de im)(hf:∀f,lL f->tt f=true):CX im:=
 ⟨by rw[h.1];decide,by rw[h.1];exact Dp,by rw[h.2.1];decide,by rw[h.2.1];decide,λf hm=>hf f (h.2.2 f hm)⟩
end Go.Proofs.YtmigecldjbgneaaGreatDoor