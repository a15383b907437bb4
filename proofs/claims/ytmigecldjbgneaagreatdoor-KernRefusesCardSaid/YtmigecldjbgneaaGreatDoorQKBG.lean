/- Lemmas. Conditions: none. -/
import Derived.Test.YtmigecldjbgneaaGreatDoorQKBF
set_option maxHeartbeats 4000000
set_option maxRecDepth 100000
namespace Go.Proofs.YtmigecldjbgneaaGreatDoor
open Go.Vx
set_option maxRecDepth 100000
def sq(n:Nat)(x:Int)(o:Op)(s:Sn)(l:List Int)(b:Int×Int):Except Int (Sn×List Int):=
 bif last o.c then .ok (s,l)else bif decide (x+1<n)then(match yR s l (x+1) b with
  |some q=>.ok q
  |none=>.error 8)else .error 9
def rk(im:Im)(n:Nat)(o:Op)(i:Info)(x:Int)(h:Int×Int)(s:Sn)(l:List Int):Except Int (Sn×List Int):=
 bif decide (bm im o<=h.1)&&decide (h.1-bm im o+i.pu<=32) then
  (bif o.c==21 then(bif decide (0<h.2)then sq n x o s l (h.1-bm im o+i.pu,h.2-1)else .error 11)
  else bif o.c==20 then(bif decide (h.2<16)&&decide (h.1<32)then(match sq n x o s l (h.1-bm im o+i.pu,h.2+1) with
   |.ok q=>(match yR q.1 q.2 o.a (h.1+1,h.2) with
    |some q=>.ok q
    |none=>.error 8)
   |.error e=>.error e)else .error 8)
  else bif o.c==16||o.c==15 then(match yR s l o.a (h.1-bm im o+i.pu,h.2) with
   |some q=>sq n x o q.1 q.2 (h.1-bm im o+i.pu,h.2)
   |none=>.error 8)
  else sq n x o s l (h.1-bm im o+i.pu,h.2))
 else .error 8
def ua(K:Out->H->Prop)(im:Im)(fn:Fn)(x:Int)(r:Except Int (Sn×List Int)):Prop:=
 match r with
 |.ok q=>K (.ret (.tu [])) (wB im fn q.1 q.2)
 |.error e=>∀s l,K (.eU (pB x e)) (wB im fn s l)
theorem g_{K:KT}(im:Im)(fn:Fn)(s:Sn)(l:List Int)(f x a b:Int)(h1:∀q,yR s l x (a,b)=some q->K (.ret (.tu [])) (wB im fn q.1 q.2))(h2:yR s l x (a,b)=none->K (.eU (pB f 8)) (wB im fn s l)):Z1 95 [.p 0 0,.d (.int .i64 f),.d (.int .i64 x),.ag [.d (.int .i64 a),.d (.int .i64 b)]] (wB im fn s l) K:=by
 refine MF im fn s l f x (a,b) ?_;cases h:yR s l x (a,b) with
 |some q=>exact h1 q h
 |none=>exact h2 h
theorem cw{K:KT}{im:Im}{fn:Fn}{x e:Int}{r:Except Int (Sn×List Int)}(h:ua K im fn x r)(hr:r=.error e)(s:Sn)(l:List Int):K (.eU (pB x e)) (wB im fn s l):=by
 subst hr;exact h s l
theorem G7{K:KT}(im:Im)(fn:Fn)(x:Int)(o:Op)(i:Info)(s:Sn)(l:List Int)(h0:0<=x/\x<1000)(ho:fn.code[x.toNat]?=some o)(hi:inf o.c=some i)(j:Nat)(d t:Int)(hl:gF s x 0=some (j,(d,t)))(hh : -1000<=d/\d<=1000/\-1000<=t/\t<=1000)(hc:o.c≠15/\o.c≠16/\o.c≠17/\o.c≠18/\o.c≠19/\o.c≠20/\o.c≠21)
    (hk:ua K im fn x (rk im fn.code.length o i x (d,t) s l)):Z1 98 [.p 0 0,.d (.int .i64 x)] (wB im fn s l) K:=by
  have hab:=e6 hi
  have hs:=iK x s 0
  rw[hl]at hs
  obtain⟨_,_,_,_,p0,p1,p2,p3⟩:=ei hi
  have hcl:fn.code.length<1000000->True:=λ_=>trivial
  have e15:(o.c==15)=false:=by simp;omega
  have e16:(o.c==16)=false:=by simp;omega
  have e17:(o.c==17)=false:=by simp;omega
  have e18:(o.c==18)=false:=by simp;omega
  have e19:(o.c==19)=false:=by simp;omega
  have e20:(o.c==20)=false:=by simp;omega
  have e21:(o.c==21)=false:=by simp;omega
  have el:last o.c=false:=by simp only[last,e15,e18,e19,dL]
  have nl:(!(last o.c))=true:=by rw[el];rfl
  have et:bm im o=i.po:=by simp only[bm,hi,e17,ε]
  have ht:rk im fn.code.length o i x (d,t) s l=bif decide (i.po<=d)&&decide (d-i.po+i.pu<=32)then(bif decide (x+1<fn.code.length)then(match yR s l (x+1) (d-i.po+i.pu,t) with
    |some q=>.ok q
    |none=>.error 8)else .error 9)else .error 8:=by
    simp only[rk,et,e15,e16,e20,e21,sq,el,ε,dL]
  rw[ht]at hk
  refine sh0 Tryz.f98 ?_
  repeat' ((conv=>whnf);first|exact zf|refine(da _ _ [40000000] ?_ rfl)|refine zm ?_|refine zB ?_ ?_|intro _)
  refine⟨cV o,⟨h0.1,by simp[ho],rfl⟩,?_⟩
  by_cases c1:i.po<=d
  · have d1:decide (i.po<=d)=true:=by simpa using c1
    by_cases c2:d-i.po+i.pu<=32
    · have d2:decide (d-i.po+i.pu<=32)=true:=by simpa using c2
      rw[d1,d2]at hk
      repeat' ((conv=>whnf);first|exact zf|refine zm ?_|refine zc hs ?_|refine zc hab ?_|refine zi0 ?_|refine(bB e17 ?_)|refine(bB e21 ?_)|refine(bB e20 ?_)|refine(bB e16 ?_)|refine(bB e15 ?_)|refine(bf nl ?_)|refine(bf d1 ?_)|refine zB ?_ ?_|intro _)
      refine bh _ _ _ (λhb=>?_) (λhb=>absurd (d2.symm.trans hb) Bool.noConfusion)
      clear hb
      by_cases c9:x+1<fn.code.length
      · have d9:decide (x+1<(fn.code.length:Int))=true:=by simpa using c9
        rw[d9]at hk
        repeat' ((conv=>whnf);first|exact zf|refine zm ?_|refine zc hs ?_|refine zc hab ?_|refine zi0 ?_|refine(bB e17 ?_)|refine(bB e21 ?_)|refine(bB e20 ?_)|refine(bB e16 ?_)|refine(bB e15 ?_)|refine(bf nl ?_)|refine zB ?_ ?_|intro _)
        refine bh _ _ _ (λhb=>?_) (λhb=>absurd hb (by simp;omega))
        repeat' ((conv=>whnf);first|exact zf|refine zm ?_|refine zi0 ?_|refine zr0 ?_|refine zB ?_ ?_|intro _)
        refine g_ im fn s l x _ _ _ (λq hq9=>?_) (λhq9=>?_)
        · simp only[dZ,δ,hq9]at hk
          repeat' ((conv=>whnf);first|exact zf|refine zm ?_|refine zi0 ?_|refine(bB e17 ?_)|refine(bB e21 ?_)|refine(bB e20 ?_)|refine(bB e16 ?_)|refine(bB e15 ?_)|refine(bf nl ?_)|refine zB ?_ ?_|intro _)
          exact hk
        · simp only[dZ,δ,hq9]at hk
          repeat' ((conv=>whnf);first|exact zf|refine zm ?_|refine zB ?_ ?_|intro _)
          exact hk s l
      · have d9:decide (x+1<(fn.code.length:Int))=false:=by simpa using c9
        rw[d9]at hk
        repeat' ((conv=>whnf);first|exact zf|refine zm ?_|refine zc hs ?_|refine zc hab ?_|refine zi0 ?_|refine(bB e17 ?_)|refine(bB e21 ?_)|refine(bB e20 ?_)|refine(bB e16 ?_)|refine(bB e15 ?_)|refine(bf nl ?_)|refine zB ?_ ?_|intro _)
        refine bh _ _ _ (λhb=>absurd hb (by simp;omega)) (λhb=>?_)
        repeat' ((conv=>whnf);first|exact zf|refine zm ?_|refine zB ?_ ?_|intro _)
        exact cw hk rfl s l
    · have d2:decide (d-i.po+i.pu<=32)=false:=by simpa using c2
      rw[d1,d2]at hk
      repeat' ((conv=>whnf);first|exact zf|refine zm ?_|refine zc hs ?_|refine zc hab ?_|refine zi0 ?_|refine(bB e17 ?_)|refine(bB e21 ?_)|refine(bB e20 ?_)|refine(bB e16 ?_)|refine(bB e15 ?_)|refine(bf nl ?_)|refine(bf d1 ?_)|refine zB ?_ ?_|intro _)
      refine bh _ _ _ (λhb=>absurd (hb.symm.trans d2) Bool.noConfusion) (λhb=>?_)
      repeat' ((conv=>whnf);first|exact zf|refine zm ?_|refine zB ?_ ?_|intro _)
      exact cw hk rfl s l
  · have d1:decide (i.po<=d)=false:=by simpa using c1
    rw[d1]at hk
    repeat' ((conv=>whnf);first|exact zf|refine zm ?_|refine zc hs ?_|refine zc hab ?_|refine zi0 ?_|refine(bB e17 ?_)|refine(bB e21 ?_)|refine(bB e20 ?_)|refine(bB e16 ?_)|refine(bB e15 ?_)|refine(bf nl ?_)|refine(bB d1 ?_)|refine zB ?_ ?_|intro _)
    refine bh _ _ _ (λhb=>absurd hb Bool.noConfusion) (λhb=>?_)
    repeat' ((conv=>whnf);first|exact zf|refine zm ?_|refine zB ?_ ?_|intro _)
    exact cw hk rfl s l
theorem G8{K:KT}(im:Im)(fn:Fn)(x:Int)(o:Op)(i:Info)(s:Sn)(l:List Int)(h0:0<=x/\x<1000)(ho:fn.code[x.toNat]?=some o)(hi:inf o.c=some i)(j:Nat)(d t:Int)(hl:gF s x 0=some (j,(d,t)))(hh : -1000<=d/\d<=1000/\-1000<=t/\t<=1000)(hc:o.c=18\/o.c=19)
    (hk:ua K im fn x (rk im fn.code.length o i x (d,t) s l)):Z1 98 [.p 0 0,.d (.int .i64 x)] (wB im fn s l) K:=by
  have hab:=e6 hi
  have hs:=iK x s 0
  rw[hl]at hs
  obtain⟨_,_,_,_,p0,p1,p2,p3⟩:=ei hi
  have hcl:fn.code.length<1000000->True:=λ_=>trivial
  have e15:(o.c==15)=false:=by simp;omega
  have e16:(o.c==16)=false:=by simp;omega
  have e17:(o.c==17)=false:=by simp;omega
  have e20:(o.c==20)=false:=by simp;omega
  have e21:(o.c==21)=false:=by simp;omega
  have el:last o.c=true:=by rcases hc with h|h<;>rw[h]<;>rfl
  have nl:(!(last o.c))=false:=by rw[el];rfl
  have et:bm im o=i.po:=by simp only[bm,hi,e17,ε]
  have ht:rk im fn.code.length o i x (d,t) s l=bif decide (i.po<=d)&&decide (d-i.po+i.pu<=32)then .ok (s,l)else .error 8:=by
    simp only[rk,et,e15,e16,e20,e21,sq,el,ε,δ,dL]
  rw[ht]at hk
  refine sh0 Tryz.f98 ?_
  repeat' ((conv=>whnf);first|exact zf|refine(da _ _ [40000000] ?_ rfl)|refine zm ?_|refine zB ?_ ?_|intro _)
  refine⟨cV o,⟨h0.1,by simp[ho],rfl⟩,?_⟩
  by_cases c1:i.po<=d
  · have d1:decide (i.po<=d)=true:=by simpa using c1
    by_cases c2:d-i.po+i.pu<=32
    · have d2:decide (d-i.po+i.pu<=32)=true:=by simpa using c2
      rw[d1,d2]at hk
      repeat' ((conv=>whnf);first|exact zf|refine zm ?_|refine zc hs ?_|refine zc hab ?_|refine zi0 ?_|refine(bB e17 ?_)|refine(bB e21 ?_)|refine(bB e20 ?_)|refine(bB e16 ?_)|refine(bB e15 ?_)|refine(bB nl ?_)|refine(bf d1 ?_)|refine zB ?_ ?_|intro _)
      refine bh _ _ _ (λhb=>?_) (λhb=>absurd (d2.symm.trans hb) Bool.noConfusion)
      clear hb
      repeat' ((conv=>whnf);first|exact zf|refine zm ?_|refine zi0 ?_|refine(bB e17 ?_)|refine(bB e21 ?_)|refine(bB e20 ?_)|refine(bB e16 ?_)|refine(bB e15 ?_)|refine(bB nl ?_)|refine zB ?_ ?_|intro _)
      exact hk
    · have d2:decide (d-i.po+i.pu<=32)=false:=by simpa using c2
      rw[d1,d2]at hk
      repeat' ((conv=>whnf);first|exact zf|refine zm ?_|refine zc hs ?_|refine zc hab ?_|refine zi0 ?_|refine(bB e17 ?_)|refine(bB e21 ?_)|refine(bB e20 ?_)|refine(bB e16 ?_)|refine(bB e15 ?_)|refine(bB nl ?_)|refine(bf d1 ?_)|refine zB ?_ ?_|intro _)
      refine bh _ _ _ (λhb=>absurd (hb.symm.trans d2) Bool.noConfusion) (λhb=>?_)
      repeat' ((conv=>whnf);first|exact zf|refine zm ?_|refine zB ?_ ?_|intro _)
      exact cw hk rfl s l
  · have d1:decide (i.po<=d)=false:=by simpa using c1
    rw[d1]at hk
    repeat' ((conv=>whnf);first|exact zf|refine zm ?_|refine zc hs ?_|refine zc hab ?_|refine zi0 ?_|refine(bB e17 ?_)|refine(bB e21 ?_)|refine(bB e20 ?_)|refine(bB e16 ?_)|refine(bB e15 ?_)|refine(bB nl ?_)|refine(bB d1 ?_)|refine zB ?_ ?_|intro _)
    refine bh _ _ _ (λhb=>absurd hb Bool.noConfusion) (λhb=>?_)
    repeat' ((conv=>whnf);first|exact zf|refine zm ?_|refine zB ?_ ?_|intro _)
    exact cw hk rfl s l
theorem Ga{K:KT}(im:Im)(fn:Fn)(x:Int)(o:Op)(i:Info)(s:Sn)(l:List Int)(h0:0<=x/\x<1000)(ho:fn.code[x.toNat]?=some o)(hi:inf o.c=some i)(j:Nat)(d t:Int)(hl:gF s x 0=some (j,(d,t)))(hh : -1000<=d/\d<=1000/\-1000<=t/\t<=1000)(hc:o.c=17)(g:Fn)(ha:0<=o.a)(hg:im.fs[o.a.toNat]?=some g)(hga:0<=g.args/\g.args<=16)
    (hk:ua K im fn x (rk im fn.code.length o i x (d,t) s l)):Z1 98 [.p 0 0,.d (.int .i64 x)] (wB im fn s l) K:=by
  have hab:=e6 hi
  have hs:=iK x s 0
  rw[hl]at hs
  obtain⟨_,_,_,_,p0,p1,p2,p3⟩:=ei hi
  have hcl:fn.code.length<1000000->True:=λ_=>trivial
  have e15:(o.c==15)=false:=by simp;omega
  have e16:(o.c==16)=false:=by simp;omega
  have e18:(o.c==18)=false:=by simp;omega
  have e19:(o.c==19)=false:=by simp;omega
  have e20:(o.c==20)=false:=by simp;omega
  have e21:(o.c==21)=false:=by simp;omega
  have e17:(o.c==17)=true:=by simp;omega
  have el:last o.c=false:=by simp only[last,e15,e18,e19,dL]
  have nl:(!(last o.c))=true:=by rw[el];rfl
  have et:bm im o=i.po+g.args:=by simp only[bm,hi,e17,δ,hg]
  have ht:rk im fn.code.length o i x (d,t) s l=bif decide (i.po+g.args<=d)&&decide (d-(i.po+g.args)+i.pu<=32)then(bif decide (x+1<fn.code.length)then(match yR s l (x+1) (d-(i.po+g.args)+i.pu,t) with
    |some q=>.ok q
    |none=>.error 8)else .error 9)else .error 8:=by
    simp only[rk,et,e15,e16,e20,e21,sq,el,ε,dL]
  rw[ht]at hk
  refine sh0 Tryz.f98 ?_
  repeat' ((conv=>whnf);first|exact zf|refine(da _ _ [40000000] ?_ rfl)|refine zm ?_|refine zB ?_ ?_|intro _)
  refine⟨cV o,⟨h0.1,by simp[ho],rfl⟩,?_⟩
  by_cases c1:(i.po+g.args)<=d
  · have d1:decide ((i.po+g.args)<=d)=true:=by simpa using c1
    by_cases c2:d-(i.po+g.args)+i.pu<=32
    · have d2:decide (d-(i.po+g.args)+i.pu<=32)=true:=by simpa using c2
      rw[d1,d2]at hk
      repeat' ((conv=>whnf);first|exact zf|refine zm ?_|refine zc hs ?_|refine zc hab ?_|refine(bf e17 ?_)|refine zB ?_ ?_|intro _)
      refine⟨bc g,⟨ha,by simp[hg],rfl⟩,?_⟩
      repeat' ((conv=>whnf);first|exact zf|refine zm ?_|refine zc hs ?_|refine zc hab ?_|refine zi0 ?_|refine(bB e21 ?_)|refine(bB e20 ?_)|refine(bB e16 ?_)|refine(bB e15 ?_)|refine(bf nl ?_)|refine(bf d1 ?_)|refine zB ?_ ?_|intro _)
      refine bh _ _ _ (λhb=>?_) (λhb=>absurd (d2.symm.trans hb) Bool.noConfusion)
      clear hb
      by_cases c9:x+1<fn.code.length
      · have d9:decide (x+1<(fn.code.length:Int))=true:=by simpa using c9
        rw[d9]at hk
        repeat' ((conv=>whnf);first|exact zf|refine zm ?_|refine zc hs ?_|refine zc hab ?_|refine zi0 ?_|refine(bB e21 ?_)|refine(bB e20 ?_)|refine(bB e16 ?_)|refine(bB e15 ?_)|refine(bf nl ?_)|refine zB ?_ ?_|intro _)
        refine bh _ _ _ (λhb=>?_) (λhb=>absurd hb (by simp;omega))
        repeat' ((conv=>whnf);first|exact zf|refine zm ?_|refine zi0 ?_|refine zr0 ?_|refine zB ?_ ?_|intro _)
        refine g_ im fn s l x _ _ _ (λq hq9=>?_) (λhq9=>?_)
        · simp only[dZ,δ,hq9]at hk
          repeat' ((conv=>whnf);first|exact zf|refine zm ?_|refine zi0 ?_|refine(bB e21 ?_)|refine(bB e20 ?_)|refine(bB e16 ?_)|refine(bB e15 ?_)|refine(bf nl ?_)|refine zB ?_ ?_|intro _)
          exact hk
        · simp only[dZ,δ,hq9]at hk
          repeat' ((conv=>whnf);first|exact zf|refine zm ?_|refine zB ?_ ?_|intro _)
          exact hk s l
      · have d9:decide (x+1<(fn.code.length:Int))=false:=by simpa using c9
        rw[d9]at hk
        repeat' ((conv=>whnf);first|exact zf|refine zm ?_|refine zc hs ?_|refine zc hab ?_|refine zi0 ?_|refine(bB e21 ?_)|refine(bB e20 ?_)|refine(bB e16 ?_)|refine(bB e15 ?_)|refine(bf nl ?_)|refine zB ?_ ?_|intro _)
        refine bh _ _ _ (λhb=>absurd hb (by simp;omega)) (λhb=>?_)
        repeat' ((conv=>whnf);first|exact zf|refine zm ?_|refine zB ?_ ?_|intro _)
        exact cw hk rfl s l
    · have d2:decide (d-(i.po+g.args)+i.pu<=32)=false:=by simpa using c2
      rw[d1,d2]at hk
      repeat' ((conv=>whnf);first|exact zf|refine zm ?_|refine zc hs ?_|refine zc hab ?_|refine(bf e17 ?_)|refine zB ?_ ?_|intro _)
      refine⟨bc g,⟨ha,by simp[hg],rfl⟩,?_⟩
      repeat' ((conv=>whnf);first|exact zf|refine zm ?_|refine zc hs ?_|refine zc hab ?_|refine zi0 ?_|refine(bB e21 ?_)|refine(bB e20 ?_)|refine(bB e16 ?_)|refine(bB e15 ?_)|refine(bf nl ?_)|refine(bf d1 ?_)|refine zB ?_ ?_|intro _)
      refine bh _ _ _ (λhb=>absurd (hb.symm.trans d2) Bool.noConfusion) (λhb=>?_)
      repeat' ((conv=>whnf);first|exact zf|refine zm ?_|refine zB ?_ ?_|intro _)
      exact cw hk rfl s l
  · have d1:decide ((i.po+g.args)<=d)=false:=by simpa using c1
    rw[d1]at hk
    repeat' ((conv=>whnf);first|exact zf|refine zm ?_|refine zc hs ?_|refine zc hab ?_|refine(bf e17 ?_)|refine zB ?_ ?_|intro _)
    refine⟨bc g,⟨ha,by simp[hg],rfl⟩,?_⟩
    repeat' ((conv=>whnf);first|exact zf|refine zm ?_|refine zc hs ?_|refine zc hab ?_|refine zi0 ?_|refine(bB e21 ?_)|refine(bB e20 ?_)|refine(bB e16 ?_)|refine(bB e15 ?_)|refine(bf nl ?_)|refine(bB d1 ?_)|refine zB ?_ ?_|intro _)
    refine bh _ _ _ (λhb=>absurd hb Bool.noConfusion) (λhb=>?_)
    repeat' ((conv=>whnf);first|exact zf|refine zm ?_|refine zB ?_ ?_|intro _)
    exact cw hk rfl s l
theorem L7 {K:KT} (im:Im) (fn:Fn) (x:Int) (o:Op) (i:Info) (s:Sn) (l:List Int) (h0:0≤x∧x<1000) (ho:fn.code[x.toNat]? = some o) (hi:inf o.c=some i) (j:Nat) (d t:Int) (hl:gF s x 0=some (j,(d,t))) (hh : -1000≤d∧d≤1000∧-1000≤t∧t≤1000) (hc:o.c=21)
    (hk:ua K im fn x (rk im fn.code.length o i x (d,t) s l)):Z1 98 [.p 0 0,.d (.int .i64 x)] (wB im fn s l) K:=by
  have hab:=e6 hi
  have hs:=iK x s 0
  rw[hl]at hs
  obtain⟨_,_,_,_,p0,p1,p2,p3⟩:=ei hi
  have hcl:fn.code.length<1000000->True:=λ_=>trivial
  have e15:(o.c==15)=false:=by simp;omega
  have e16:(o.c==16)=false:=by simp;omega
  have e17:(o.c==17)=false:=by simp;omega
  have e18:(o.c==18)=false:=by simp;omega
  have e19:(o.c==19)=false:=by simp;omega
  have e20:(o.c==20)=false:=by simp;omega
  have e21:(o.c==21)=true:=by simp;omega
  have el:last o.c=false:=by simp only[last,e15,e18,e19,dL]
  have nl:(!(last o.c))=true:=by rw[el];rfl
  have et:bm im o=i.po:=by simp only[bm,hi,e17,ε]
  have ht:rk im fn.code.length o i x (d,t) s l=bif decide (i.po<=d)&&decide (d-i.po+i.pu<=32)then(bif decide (0<t)then(bif decide (x+1<fn.code.length)then(match yR s l (x+1) (d-i.po+i.pu,t-1) with
    |some q=>.ok q
    |none=>.error 8)else .error 9)else .error 11)else .error 8:=by
    simp only[rk,et,e21,sq,el,ε,δ]
  rw[ht]at hk
  refine sh0 Tryz.f98 ?_
  repeat' ((conv=>whnf);first|exact zf|refine(da _ _ [40000000] ?_ rfl)|refine zm ?_|refine zB ?_ ?_|intro _)
  refine⟨cV o,⟨h0.1,by simp[ho],rfl⟩,?_⟩
  by_cases c1:i.po<=d
  · have d1:decide (i.po<=d)=true:=by simpa using c1
    by_cases c2:d-i.po+i.pu<=32
    · have d2:decide (d-i.po+i.pu<=32)=true:=by simpa using c2
      rw[d1,d2]at hk
      repeat' ((conv=>whnf);first|exact zf|refine zm ?_|refine zc hs ?_|refine zc hab ?_|refine zi0 ?_|refine(bB e17 ?_)|refine(bf e21 ?_)|refine(bB e20 ?_)|refine(bf nl ?_)|refine(bf d1 ?_)|refine zB ?_ ?_|intro _)
      refine bh _ _ _ (λhb=>?_) (λhb=>absurd (d2.symm.trans hb) Bool.noConfusion)
      clear hb
      by_cases c3:0<t
      · have d3:decide (0<t)=true:=by simpa using c3
        rw[d3]at hk
        repeat' ((conv=>whnf);first|exact zf|refine zm ?_|refine zc hs ?_|refine zc hab ?_|refine zi0 ?_|refine(bB e17 ?_)|refine(bf e21 ?_)|refine(bB e20 ?_)|refine(bf nl ?_)|refine zB ?_ ?_|intro _)
        refine bh _ _ _ (λhb=>?_) (λhb=>absurd (d3.symm.trans hb) Bool.noConfusion)
        by_cases c9:x+1<fn.code.length
        · have d9:decide (x+1<(fn.code.length:Int))=true:=by simpa using c9
          rw[d9]at hk
          repeat' ((conv=>whnf);first|exact zf|refine zm ?_|refine zc hs ?_|refine zc hab ?_|refine zi0 ?_|refine(bB e17 ?_)|refine(bf e21 ?_)|refine(bB e20 ?_)|refine(bf nl ?_)|refine zB ?_ ?_|intro _)
          refine bh _ _ _ (λhb=>?_) (λhb=>absurd hb (by simp;omega))
          repeat' ((conv=>whnf);first|exact zf|refine zm ?_|refine zi0 ?_|refine zr0 ?_|refine zB ?_ ?_|intro _)
          refine g_ im fn s l x _ _ _ (λq hq9=>?_) (λhq9=>?_)
          · simp only[dZ,δ,hq9]at hk
            repeat' ((conv=>whnf);first|exact zf|refine zm ?_|refine zi0 ?_|refine(bB e17 ?_)|refine(bf e21 ?_)|refine(bB e20 ?_)|refine(bf nl ?_)|refine zB ?_ ?_|intro _)
            exact hk
          · simp only[dZ,δ,hq9]at hk
            repeat' ((conv=>whnf);first|exact zf|refine zm ?_|refine zB ?_ ?_|intro _)
            exact hk s l
        · have d9:decide (x+1<(fn.code.length:Int))=false:=by simpa using c9
          rw[d9]at hk
          repeat' ((conv=>whnf);first|exact zf|refine zm ?_|refine zc hs ?_|refine zc hab ?_|refine zi0 ?_|refine(bB e17 ?_)|refine(bf e21 ?_)|refine(bB e20 ?_)|refine(bf nl ?_)|refine zB ?_ ?_|intro _)
          refine bh _ _ _ (λhb=>absurd hb (by simp;omega)) (λhb=>?_)
          repeat' ((conv=>whnf);first|exact zf|refine zm ?_|refine zB ?_ ?_|intro _)
          exact cw hk rfl s l
      · have d3:decide (0<t)=false:=by simpa using c3
        rw[d3]at hk
        repeat' ((conv=>whnf);first|exact zf|refine zm ?_|refine zc hs ?_|refine zc hab ?_|refine zi0 ?_|refine(bB e17 ?_)|refine(bf e21 ?_)|refine(bB e20 ?_)|refine(bf nl ?_)|refine zB ?_ ?_|intro _)
        refine bh _ _ _ (λhb=>absurd (hb.symm.trans d3) Bool.noConfusion) (λhb=>?_)
        repeat' ((conv=>whnf);first|exact zf|refine zm ?_|refine zB ?_ ?_|intro _)
        exact cw hk rfl s l
    · have d2:decide (d-i.po+i.pu<=32)=false:=by simpa using c2
      rw[d1,d2]at hk
      repeat' ((conv=>whnf);first|exact zf|refine zm ?_|refine zc hs ?_|refine zc hab ?_|refine zi0 ?_|refine(bB e17 ?_)|refine(bf e21 ?_)|refine(bB e20 ?_)|refine(bf nl ?_)|refine(bf d1 ?_)|refine zB ?_ ?_|intro _)
      refine bh _ _ _ (λhb=>absurd (hb.symm.trans d2) Bool.noConfusion) (λhb=>?_)
      repeat' ((conv=>whnf);first|exact zf|refine zm ?_|refine zB ?_ ?_|intro _)
      exact cw hk rfl s l
  · have d1:decide (i.po<=d)=false:=by simpa using c1
    rw[d1]at hk
    repeat' ((conv=>whnf);first|exact zf|refine zm ?_|refine zc hs ?_|refine zc hab ?_|refine zi0 ?_|refine(bB e17 ?_)|refine(bf e21 ?_)|refine(bB e20 ?_)|refine(bf nl ?_)|refine(bB d1 ?_)|refine zB ?_ ?_|intro _)
    refine bh _ _ _ (λhb=>absurd hb Bool.noConfusion) (λhb=>?_)
    repeat' ((conv=>whnf);first|exact zf|refine zm ?_|refine zB ?_ ?_|intro _)
    exact cw hk rfl s l
theorem L6 {K:KT} (im:Im) (fn:Fn) (x:Int) (o:Op) (i:Info) (s:Sn) (l:List Int) (h0:0≤x∧x<1000) (ho:fn.code[x.toNat]? = some o) (hi:inf o.c=some i) (j:Nat) (d t:Int) (hl:gF s x 0=some (j,(d,t))) (hh : -1000≤d∧d≤1000∧-1000≤t∧t≤1000) (hc:o.c=20)
    (hk:ua K im fn x (rk im fn.code.length o i x (d,t) s l)):Z1 98 [.p 0 0,.d (.int .i64 x)] (wB im fn s l) K:=by
  have hab:=e6 hi
  have hs:=iK x s 0
  rw[hl]at hs
  obtain⟨_,_,_,_,p0,p1,p2,p3⟩:=ei hi
  have hcl:fn.code.length<1000000->True:=λ_=>trivial
  have e15:(o.c==15)=false:=by simp;omega
  have e16:(o.c==16)=false:=by simp;omega
  have e17:(o.c==17)=false:=by simp;omega
  have e18:(o.c==18)=false:=by simp;omega
  have e19:(o.c==19)=false:=by simp;omega
  have e21:(o.c==21)=false:=by simp;omega
  have e20:(o.c==20)=true:=by simp;omega
  have el:last o.c=false:=by simp only[last,e15,e18,e19,dL]
  have nl:(!(last o.c))=true:=by rw[el];rfl
  have et:bm im o=i.po:=by simp only[bm,hi,e17,ε]
  have ht:rk im fn.code.length o i x (d,t) s l=bif decide (i.po<=d)&&decide (d-i.po+i.pu<=32)then(bif decide (t<16)&&decide (d<32)then(match(bif decide (x+1<fn.code.length)then(match yR s l (x+1) (d-i.po+i.pu,t+1) with
    |some q=>.ok q
    |none=>.error 8)else .error 9:Except Int (Sn×List Int)) with
      |.ok q=>(match yR q.1 q.2 o.a (d+1,t) with
          |some q=>.ok q
          |none=>.error 8)
      |.error e=>.error e)else .error 8)else .error 8:=by
    simp only[rk,et,e20,e21,sq,el,ε,δ]
  rw[ht]at hk
  refine sh0 Tryz.f98 ?_
  repeat' ((conv=>whnf);first|exact zf|refine(da _ _ [40000000] ?_ rfl)|refine zm ?_|refine zB ?_ ?_|intro _)
  refine⟨cV o,⟨h0.1,by simp[ho],rfl⟩,?_⟩
  by_cases c1:i.po<=d
  · have d1:decide (i.po<=d)=true:=by simpa using c1
    by_cases c2:d-i.po+i.pu<=32
    · have d2:decide (d-i.po+i.pu<=32)=true:=by simpa using c2
      rw[d1,d2]at hk
      repeat' ((conv=>whnf);first|exact zf|refine zm ?_|refine zc hs ?_|refine zc hab ?_|refine zi0 ?_|refine(bB e17 ?_)|refine(bB e21 ?_)|refine(bf e20 ?_)|refine(bf nl ?_)|refine(bf d1 ?_)|refine zB ?_ ?_|intro _)
      refine bh _ _ _ (λhb=>?_) (λhb=>absurd (d2.symm.trans hb) Bool.noConfusion)
      clear hb
      by_cases c3:t<16
      · have d3:decide (t<16)=true:=by simpa using c3
        by_cases c4:d<32
        · have d4:decide (d<32)=true:=by simpa using c4
          rw[d3,d4]at hk
          repeat' ((conv=>whnf);first|exact zf|refine zm ?_|refine zc hs ?_|refine zc hab ?_|refine(bf d3 ?_)|refine zi0 ?_|refine(bB e17 ?_)|refine(bB e21 ?_)|refine(bf e20 ?_)|refine(bf nl ?_)|refine zB ?_ ?_|intro _)
          refine bh _ _ _ (λhb=>?_) (λhb=>absurd (d4.symm.trans hb) Bool.noConfusion)
          by_cases c9:x+1<fn.code.length
          · have d9:decide (x+1<(fn.code.length:Int))=true:=by simpa using c9
            rw[d9]at hk
            repeat' ((conv=>whnf);first|exact zf|refine zm ?_|refine zc hs ?_|refine zc hab ?_|refine zi0 ?_|refine(bB e17 ?_)|refine(bB e21 ?_)|refine(bf e20 ?_)|refine(bf nl ?_)|refine zB ?_ ?_|intro _)
            refine bh _ _ _ (λhb=>?_) (λhb=>absurd hb (by simp;omega))
            repeat' ((conv=>whnf);first|exact zf|refine zm ?_|refine zi0 ?_|refine zr0 ?_|refine zB ?_ ?_|intro _)
            refine g_ im fn s l x _ _ _ (λq hq9=>?_) (λhq9=>?_)
            · simp only[dZ,δ,hq9]at hk
              repeat' ((conv=>whnf);first|exact zf|refine zm ?_|refine zi0 ?_|refine(bB e17 ?_)|refine(bB e21 ?_)|refine(bf e20 ?_)|refine(bf nl ?_)|refine zr0 ?_|refine zB ?_ ?_|intro _)
              refine g_ im fn q.1 q.2 x _ _ _ (λq2 hq2=>?_) (λhq2=>?_)
              · simp only[hq2]at hk
                repeat' ((conv=>whnf);first|exact zf|refine zm ?_|refine zB ?_ ?_|intro _)
                exact hk
              · simp only[hq2]at hk
                repeat' ((conv=>whnf);first|exact zf|refine zm ?_|refine zB ?_ ?_|intro _)
                exact hk q.1 q.2
            · simp only[dZ,δ,hq9]at hk
              repeat' ((conv=>whnf);first|exact zf|refine zm ?_|refine zB ?_ ?_|intro _)
              exact hk s l
          · have d9:decide (x+1<(fn.code.length:Int))=false:=by simpa using c9
            rw[d9]at hk
            repeat' ((conv=>whnf);first|exact zf|refine zm ?_|refine zc hs ?_|refine zc hab ?_|refine zi0 ?_|refine(bB e17 ?_)|refine(bB e21 ?_)|refine(bf e20 ?_)|refine(bf nl ?_)|refine zB ?_ ?_|intro _)
            refine bh _ _ _ (λhb=>absurd hb (by simp;omega)) (λhb=>?_)
            repeat' ((conv=>whnf);first|exact zf|refine zm ?_|refine zB ?_ ?_|intro _)
            exact cw hk rfl s l
        · have d4:decide (d<32)=false:=by simpa using c4
          rw[d3,d4]at hk
          repeat' ((conv=>whnf);first|exact zf|refine zm ?_|refine zc hs ?_|refine zc hab ?_|refine(bf d3 ?_)|refine zi0 ?_|refine(bB e17 ?_)|refine(bB e21 ?_)|refine(bf e20 ?_)|refine(bf nl ?_)|refine zB ?_ ?_|intro _)
          refine bh _ _ _ (λhb=>absurd (hb.symm.trans d4) Bool.noConfusion) (λhb=>?_)
          repeat' ((conv=>whnf);first|exact zf|refine zm ?_|refine zB ?_ ?_|intro _)
          exact cw hk rfl s l
      · have d3:decide (t<16)=false:=by simpa using c3
        rw[d3]at hk
        repeat' ((conv=>whnf);first|exact zf|refine zm ?_|refine zc hs ?_|refine zc hab ?_|refine(bB d3 ?_)|refine zi0 ?_|refine(bB e17 ?_)|refine(bB e21 ?_)|refine(bf e20 ?_)|refine(bf nl ?_)|refine zB ?_ ?_|intro _)
        refine bh _ _ _ (λhb=>absurd hb Bool.noConfusion) (λhb=>?_)
        repeat' ((conv=>whnf);first|exact zf|refine zm ?_|refine zB ?_ ?_|intro _)
        exact cw hk rfl s l
    · have d2:decide (d-i.po+i.pu<=32)=false:=by simpa using c2
      rw[d1,d2]at hk
      repeat' ((conv=>whnf);first|exact zf|refine zm ?_|refine zc hs ?_|refine zc hab ?_|refine zi0 ?_|refine(bB e17 ?_)|refine(bB e21 ?_)|refine(bf e20 ?_)|refine(bf nl ?_)|refine(bf d1 ?_)|refine zB ?_ ?_|intro _)
      refine bh _ _ _ (λhb=>absurd (hb.symm.trans d2) Bool.noConfusion) (λhb=>?_)
      repeat' ((conv=>whnf);first|exact zf|refine zm ?_|refine zB ?_ ?_|intro _)
      exact cw hk rfl s l
  · have d1:decide (i.po<=d)=false:=by simpa using c1
    rw[d1]at hk
    repeat' ((conv=>whnf);first|exact zf|refine zm ?_|refine zc hs ?_|refine zc hab ?_|refine zi0 ?_|refine(bB e17 ?_)|refine(bB e21 ?_)|refine(bf e20 ?_)|refine(bf nl ?_)|refine(bB d1 ?_)|refine zB ?_ ?_|intro _)
    refine bh _ _ _ (λhb=>absurd hb Bool.noConfusion) (λhb=>?_)
    repeat' ((conv=>whnf);first|exact zf|refine zm ?_|refine zB ?_ ?_|intro _)
    exact cw hk rfl s l
theorem QP {K:KT} (im:Im) (fn:Fn) (x:Int) (o:Op) (i:Info) (s:Sn) (l:List Int) (h0:0≤x∧x<1000) (ho:fn.code[x.toNat]? = some o) (hi:inf o.c=some i) (j:Nat) (d t:Int) (hl:gF s x 0=some (j,(d,t))) (hh : -1000≤d∧d≤1000∧-1000≤t∧t≤1000) (hc:o.c=16)
    (hk:ua K im fn x (rk im fn.code.length o i x (d,t) s l)):Z1 98 [.p 0 0,.d (.int .i64 x)] (wB im fn s l) K:=by
  have hab:=e6 hi
  have hs:=iK x s 0
  rw[hl]at hs
  obtain⟨_,_,_,_,p0,p1,p2,p3⟩:=ei hi
  have hcl:fn.code.length<1000000->True:=λ_=>trivial
  have e15:(o.c==15)=false:=by simp;omega
  have e17:(o.c==17)=false:=by simp;omega
  have e18:(o.c==18)=false:=by simp;omega
  have e19:(o.c==19)=false:=by simp;omega
  have e20:(o.c==20)=false:=by simp;omega
  have e21:(o.c==21)=false:=by simp;omega
  have e16:(o.c==16)=true:=by simp;omega
  have el:last o.c=false:=by simp only[last,e15,e18,e19,dL]
  have nl:(!(last o.c))=true:=by rw[el];rfl
  have et:bm im o=i.po:=by simp only[bm,hi,e17,ε]
  have ht:rk im fn.code.length o i x (d,t) s l=bif decide (i.po<=d)&&decide (d-i.po+i.pu<=32)then(match yR s l o.a (d-i.po+i.pu,t) with
    |some q=>(bif decide (x+1<fn.code.length)then(match yR q.1 q.2 (x+1) (d-i.po+i.pu,t) with
      |some q=>.ok q
      |none=>.error 8)else .error 9)
    |none=>.error 8)else .error 8:=by
    simp only[rk,et,e15,e16,e20,e21,sq,el,ε,δ,dL]
  rw[ht]at hk
  refine sh0 Tryz.f98 ?_
  repeat' ((conv=>whnf);first|exact zf|refine(da _ _ [40000000] ?_ rfl)|refine zm ?_|refine zB ?_ ?_|intro _)
  refine⟨cV o,⟨h0.1,by simp[ho],rfl⟩,?_⟩
  by_cases c1:i.po<=d
  · have d1:decide (i.po<=d)=true:=by simpa using c1
    by_cases c2:d-i.po+i.pu<=32
    · have d2:decide (d-i.po+i.pu<=32)=true:=by simpa using c2
      rw[d1,d2]at hk
      repeat' ((conv=>whnf);first|exact zf|refine zm ?_|refine zc hs ?_|refine zc hab ?_|refine zi0 ?_|refine(bB e17 ?_)|refine(bB e21 ?_)|refine(bB e20 ?_)|refine(bf e16 ?_)|refine(bf nl ?_)|refine(bf d1 ?_)|refine zB ?_ ?_|intro _)
      refine bh _ _ _ (λhb=>?_) (λhb=>absurd (d2.symm.trans hb) Bool.noConfusion)
      clear hb
      repeat' ((conv=>whnf);first|exact zf|refine zm ?_|refine zc hs ?_|refine zc hab ?_|refine zr0 ?_|refine zi0 ?_|refine(bB e17 ?_)|refine(bB e21 ?_)|refine(bB e20 ?_)|refine(bf e16 ?_)|refine(bf nl ?_)|refine zB ?_ ?_|intro _)
      refine g_ im fn s l x _ _ _ (λp hq=>?_) (λhq=>?_)
      · simp only[dZ,δ,hq]at hk
        by_cases c9:x+1<fn.code.length
        · have d9:decide (x+1<(fn.code.length:Int))=true:=by simpa using c9
          rw[d9]at hk
          repeat' ((conv=>whnf);first|exact zf|refine zm ?_|refine zc hs ?_|refine zc hab ?_|refine zi0 ?_|refine(bB e17 ?_)|refine(bB e21 ?_)|refine(bB e20 ?_)|refine(bf e16 ?_)|refine(bf nl ?_)|refine zB ?_ ?_|intro _)
          refine bh _ _ _ (λhb=>?_) (λhb=>absurd hb (by simp;omega))
          repeat' ((conv=>whnf);first|exact zf|refine zm ?_|refine zi0 ?_|refine zr0 ?_|refine zB ?_ ?_|intro _)
          refine g_ im fn p.1 p.2 x _ _ _ (λq hq9=>?_) (λhq9=>?_)
          · simp only[δ,hq9]at hk
            repeat' ((conv=>whnf);first|exact zf|refine zm ?_|refine zi0 ?_|refine(bB e17 ?_)|refine(bB e21 ?_)|refine(bB e20 ?_)|refine(bf e16 ?_)|refine(bf nl ?_)|refine zB ?_ ?_|intro _)
            exact hk
          · simp only[δ,hq9]at hk
            repeat' ((conv=>whnf);first|exact zf|refine zm ?_|refine zB ?_ ?_|intro _)
            exact hk p.1 p.2
        · have d9:decide (x+1<(fn.code.length:Int))=false:=by simpa using c9
          rw[d9]at hk
          repeat' ((conv=>whnf);first|exact zf|refine zm ?_|refine zc hs ?_|refine zc hab ?_|refine zi0 ?_|refine(bB e17 ?_)|refine(bB e21 ?_)|refine(bB e20 ?_)|refine(bf e16 ?_)|refine(bf nl ?_)|refine zB ?_ ?_|intro _)
          refine bh _ _ _ (λhb=>absurd hb (by simp;omega)) (λhb=>?_)
          repeat' ((conv=>whnf);first|exact zf|refine zm ?_|refine zB ?_ ?_|intro _)
          exact cw hk rfl p.1 p.2
      · simp only[dZ,δ,hq]at hk
        repeat' ((conv=>whnf);first|exact zf|refine zm ?_|refine zB ?_ ?_|intro _)
        exact hk s l
    · have d2:decide (d-i.po+i.pu<=32)=false:=by simpa using c2
      rw[d1,d2]at hk
      repeat' ((conv=>whnf);first|exact zf|refine zm ?_|refine zc hs ?_|refine zc hab ?_|refine zi0 ?_|refine(bB e17 ?_)|refine(bB e21 ?_)|refine(bB e20 ?_)|refine(bf e16 ?_)|refine(bf nl ?_)|refine(bf d1 ?_)|refine zB ?_ ?_|intro _)
      refine bh _ _ _ (λhb=>absurd (hb.symm.trans d2) Bool.noConfusion) (λhb=>?_)
      repeat' ((conv=>whnf);first|exact zf|refine zm ?_|refine zB ?_ ?_|intro _)
      exact cw hk rfl s l
  · have d1:decide (i.po<=d)=false:=by simpa using c1
    rw[d1]at hk
    repeat' ((conv=>whnf);first|exact zf|refine zm ?_|refine zc hs ?_|refine zc hab ?_|refine zi0 ?_|refine(bB e17 ?_)|refine(bB e21 ?_)|refine(bB e20 ?_)|refine(bf e16 ?_)|refine(bf nl ?_)|refine(bB d1 ?_)|refine zB ?_ ?_|intro _)
    refine bh _ _ _ (λhb=>absurd hb Bool.noConfusion) (λhb=>?_)
    repeat' ((conv=>whnf);first|exact zf|refine zm ?_|refine zB ?_ ?_|intro _)
    exact cw hk rfl s l
theorem G9{K:KT}(im:Im)(fn:Fn)(x:Int)(o:Op)(i:Info)(s:Sn)(l:List Int)(h0:0<=x/\x<1000)(ho:fn.code[x.toNat]?=some o)(hi:inf o.c=some i)(j:Nat)(d t:Int)(hl:gF s x 0=some (j,(d,t)))(hh : -1000<=d/\d<=1000/\-1000<=t/\t<=1000)(hc:o.c=15)
    (hk:ua K im fn x (rk im fn.code.length o i x (d,t) s l)):Z1 98 [.p 0 0,.d (.int .i64 x)] (wB im fn s l) K:=by
  have hab:=e6 hi
  have hs:=iK x s 0
  rw[hl]at hs
  obtain⟨_,_,_,_,p0,p1,p2,p3⟩:=ei hi
  have hcl:fn.code.length<1000000->True:=λ_=>trivial
  have e16:(o.c==16)=false:=by simp;omega
  have e17:(o.c==17)=false:=by simp;omega
  have e18:(o.c==18)=false:=by simp;omega
  have e19:(o.c==19)=false:=by simp;omega
  have e20:(o.c==20)=false:=by simp;omega
  have e21:(o.c==21)=false:=by simp;omega
  have e15:(o.c==15)=true:=by simp;omega
  have el:last o.c=true:=by rw[hc];rfl
  have nl:(!(last o.c))=false:=by rw[el];rfl
  have et:bm im o=i.po:=by simp only[bm,hi,e17,ε]
  have ht:rk im fn.code.length o i x (d,t) s l=bif decide (i.po<=d)&&decide (d-i.po+i.pu<=32)then(match yR s l o.a (d-i.po+i.pu,t) with
    |some q=>.ok q
    |none=>.error 8)else .error 8:=by
    simp only[rk,et,e15,e16,e20,e21,sq,el,ε,δ,kU]
  rw[ht]at hk
  refine sh0 Tryz.f98 ?_
  repeat' ((conv=>whnf);first|exact zf|refine(da _ _ [40000000] ?_ rfl)|refine zm ?_|refine zB ?_ ?_|intro _)
  refine⟨cV o,⟨h0.1,by simp[ho],rfl⟩,?_⟩
  by_cases c1:i.po<=d
  · have d1:decide (i.po<=d)=true:=by simpa using c1
    by_cases c2:d-i.po+i.pu<=32
    · have d2:decide (d-i.po+i.pu<=32)=true:=by simpa using c2
      rw[d1,d2]at hk
      repeat' ((conv=>whnf);first|exact zf|refine zm ?_|refine zc hs ?_|refine zc hab ?_|refine zi0 ?_|refine(bB e17 ?_)|refine(bB e21 ?_)|refine(bB e20 ?_)|refine(bB e16 ?_)|refine(bf e15 ?_)|refine(bB nl ?_)|refine(bf d1 ?_)|refine zB ?_ ?_|intro _)
      refine bh _ _ _ (λhb=>?_) (λhb=>absurd (d2.symm.trans hb) Bool.noConfusion)
      clear hb
      repeat' ((conv=>whnf);first|exact zf|refine zm ?_|refine zc hs ?_|refine zc hab ?_|refine zr0 ?_|refine zi0 ?_|refine(bB e17 ?_)|refine(bB e21 ?_)|refine(bB e20 ?_)|refine(bB e16 ?_)|refine(bf e15 ?_)|refine(bB nl ?_)|refine zB ?_ ?_|intro _)
      refine g_ im fn s l x _ _ _ (λp hq=>?_) (λhq=>?_)
      · simp only[dZ,δ,hq]at hk
        repeat' ((conv=>whnf);first|exact zf|refine zm ?_|refine zi0 ?_|refine(bB e17 ?_)|refine(bB e21 ?_)|refine(bB e20 ?_)|refine(bB e16 ?_)|refine(bf e15 ?_)|refine(bB nl ?_)|refine zB ?_ ?_|intro _)
        exact hk
      · simp only[dZ,δ,hq]at hk
        repeat' ((conv=>whnf);first|exact zf|refine zm ?_|refine zB ?_ ?_|intro _)
        exact hk s l
    · have d2:decide (d-i.po+i.pu<=32)=false:=by simpa using c2
      rw[d1,d2]at hk
      repeat' ((conv=>whnf);first|exact zf|refine zm ?_|refine zc hs ?_|refine zc hab ?_|refine zi0 ?_|refine(bB e17 ?_)|refine(bB e21 ?_)|refine(bB e20 ?_)|refine(bB e16 ?_)|refine(bf e15 ?_)|refine(bB nl ?_)|refine(bf d1 ?_)|refine zB ?_ ?_|intro _)
      refine bh _ _ _ (λhb=>absurd (hb.symm.trans d2) Bool.noConfusion) (λhb=>?_)
      repeat' ((conv=>whnf);first|exact zf|refine zm ?_|refine zB ?_ ?_|intro _)
      exact cw hk rfl s l
  · have d1:decide (i.po<=d)=false:=by simpa using c1
    rw[d1]at hk
    repeat' ((conv=>whnf);first|exact zf|refine zm ?_|refine zc hs ?_|refine zc hab ?_|refine zi0 ?_|refine(bB e17 ?_)|refine(bB e21 ?_)|refine(bB e20 ?_)|refine(bB e16 ?_)|refine(bf e15 ?_)|refine(bB nl ?_)|refine(bB d1 ?_)|refine zB ?_ ?_|intro _)
    refine bh _ _ _ (λhb=>absurd hb Bool.noConfusion) (λhb=>?_)
    repeat' ((conv=>whnf);first|exact zf|refine zm ?_|refine zB ?_ ?_|intro _)
    exact cw hk rfl s l
theorem EM{K:KT}(im:Im)(fn:Fn)(x:Int)(o:Op)(i:Info)(s:Sn)(l:List Int)(hI:CX im)(h0:0<=x/\x<1000)(ho:fn.code[x.toNat]?=some o)(hi:inf o.c=some i)(hoe:jc im fn o=none)(ha:0<=o.a)(j:Nat)(h:Int×Int)(hl:gF s x 0=some (j,h))(hh : -1000<=h.1/\h.1<=1000/\-1000<=h.2/\h.2<=1000)
  (hk:ua K im fn x (rk im fn.code.length o i x h s l)):Z1 98 [.p 0 0,.d (.int .i64 x)] (wB im fn s l) K:=by
 obtain⟨d,t⟩:=h
 by_cases h15:o.c=15
 .exact G9 im fn x o i s l h0 ho hi j d t hl hh h15 hk
 by_cases h16:o.c=16
 .exact QP im fn x o i s l h0 ho hi j d t hl hh h16 hk
 by_cases h17:o.c=17
 .have h4:i.ar=4:=by
   rw[h17]at hi;have:inf 17=some ⟨[99,97,108,108],4,0,1⟩:=rfl;rw[this]at hi;cases hi;rfl
  have hlt:o.a<im.fs.length:=by
   simp only[jc,hi,h4]at hoe;cases hd:decide (o.a<(im.fs.length:Int)) with
   |true=>simpa using hd
   |false=>
    unfold tq at hoe;rw[hd]at hoe;cases hoe
  obtain⟨g,hg⟩:∃g,im.fs[o.a.toNat]?=some g:=⟨_,aA (by omega)⟩
  have hgo:=hI.f3 g (aG hg);simp only[tt,aO,χ]at hgo;exact Ga im fn x o i s l h0 ho hi j d t hl hh h17 g ha hg ⟨hgo.1,hgo.2.1⟩ hk
 by_cases h18:o.c=18\/o.c=19
 .exact G8 im fn x o i s l h0 ho hi j d t hl hh h18 hk
 by_cases h20:o.c=20
 .exact L6 im fn x o i s l h0 ho hi j d t hl hh h20 hk
 by_cases h21:o.c=21
 .exact L7 im fn x o i s l h0 ho hi j d t hl hh h21 hk
 .exact G7 im fn x o i s l h0 ho hi j d t hl hh ⟨h15,h16,h17,λe=>h18 (.inl e),λe=>h18 (.inr e),h20,h21⟩ hk
theorem Al{K:KT}(im:Im)(fn:Fn)(x:Int)(o:Op)(i:Info)(s:Sn)(l:List Int)(ol:List (D×Bool×List D))(hol:ol=fR l)(hI:CX im)(h0:0<=x/\x<1000)(ho:fn.code[x.toNat]?=some o)(hi:inf o.c=some i)(hoe:jc im fn o=none)(ha:0<=o.a)(j:Nat)(h:Int×Int)(hl:gF s x 0=some (j,h))(hh : -1000<=h.1/\h.1<=1000/\-1000<=h.2/\h.2<=1000)
  (hk:ua K im fn x (rk im fn.code.length o i x h s l)):Z1 98 [.p 0 0,.d (.int .i64 x)] [.cells [.d (.sl 5 (im.cs.map b9)),.d (.sl 3 (im.fs.map bc)),.d (.int .i64 fn.args),.d (.int .i64 fn.vars),.d (.sl 2 (fn.code.map cV)),.mp 1,.mp 2],.dm (me s),.dm ol] K:=by
 subst hol;exact EM im fn x o i s l hI h0 ho hi hoe ha j h hl hh hk
theorem uC{x:Int}:∀{l:List Int}(i:Nat),x∈l->∃j,rL l x i=some j
 |p::r,i,h=>by
  simp only[rL];cases hx:x==p with
  |true=>exact⟨i,rfl⟩
  |false=>
   rcases ah.1 h with h|h
   .subst h;simp at hx
   .exact uC (i+1) h
theorem Qk{K:H->Prop}(es:List (D×Bool×List D))(a b:D)(hk:K [.cells [.mp 1],.dm es,.cells [.d a,.d b]]):vF Tryz.prog 93 [.p 0 0,.p 2 0] [.cells [.mp 1],.dm es,.cells [.d a,.d b]] none K:=by
 refine s93 rfl ?_
 repeat' ((conv=>whnf);first|exact zf|refine zm ?_|refine zB ?_ ?_|intro _)
 exact hk
theorem HU{K:H->Prop}(x:D)(a b p e:Int)(hk:K [.cells [.d .nm],.cells [.d (.int .i64 p),.d (.int .i64 e)],.cells [.d (.int .i64 p),.d (.int .i64 e)]]):vF Tryz.prog 93 [.p 0 0,.p 1 0] [.cells [.d x],.cells [.d (.int .i64 a),.d (.int .i64 b)]] (some (pB p e)) K:=by
 refine s93 rfl ?_
 repeat' ((conv=>whnf);first|exact zf|refine zm ?_|refine zB ?_ ?_|intro _)
 exact hk
theorem Rm{K:KT}(es:List (D×Bool×List D))(hk:K (.ret (.fc 133 [.p 1 0])) [.dm es,.cells [.mp 0]]):Z1 97 [.mp 0] [.dm es] K:=by
 refine sh0 Tryz.f97 ?_
 repeat' ((conv=>whnf);first|exact zf|refine zm ?_|refine zB ?_ ?_|intro _)
 exact hk
theorem VF:∀args w,(callFunc 133 args).run Tryz.prog w=.ok (.enter 133 args) w:=Go.Proofs.enters_of Tryz.func133 zx0 rfl
def Ee(l:List Int):Bool:=decide (l.length<=1000)&&(decide l.Nodup&&l.all λx=>decide (0<=x)&&decide (x<1000))
theorem yl(l:List Int)(h:Ee l=true):Z1 96 [.fc 133 [.p 0 0]] [.cells [.mp 1],.dm (fR l)] λout h=>out=.ret (.os 2)/\h=[.cells [.mp 1],.dm (fR l),.rows 1 (p4 (yk l))]:=by
 simp only[Ee,aO,χ,aP]at h;exact Gq Uw (by rfl) (by rfl) (by decide) VF (fR l) l (by simp[fR]) (λn hn=>by have:=h.2.2 n hn;unfold dB;omega) h.2.1 (by omega)
def jy(im:Im)(fn:Fn):List Op->Int->Option (Int×Int)
 |[],_=>none
 |o::r,x=>match jc im fn o with
  |some e=>some (x,e)
  |none=>jy im fn r (x+1)
def Ht(x:Int)(h:Int×Int):Bool:=decide (0<=x)&&(decide (x<1000)&&(decide (-1000<=h.1)&&(decide (h.1<=1000)&&(decide (-1000<=h.2)&&decide (h.2<=1000)))))
def Bk(x:Int):List Int->List Int
 |[]=>[x]
 |y::r=>bif decide (x<=y)then x::y::r else y::Bk x r
def rz:List Int->List Int
 |[]=>[]
 |x::r=>Bk x (rz r)
theorem rQ(x:Int):∀l,(Bk x l).Perm (x::l)
 |[]=>.refl _
 |y::r=>by
  simp only[Bk];cases decide (x<=y) with
  |true=>exact .refl _
  |false=>exact((rQ x r).cons y).trans (.swap x y r)
theorem mM:∀l,(rz l).Perm l
 |[]=>.refl _
 |x::r=>(rQ x _).trans ((mM r).cons x)
theorem r_(x:Int):∀l:List Int,l.Pairwise (·<=·)->(Bk x l).Pairwise (·<=·)
 |[],_=>by simp[Bk]
 |y::r,h=>by
  obtain⟨h1,h2⟩:=eM.1 h;simp only[Bk];cases hd:decide (x<=y) with
  |true=>
   simp only[χ]at hd;exact eM.2 ⟨λz hz=>by
    rcases ah.1 hz with rfl|hz
    .exact hd
    .exact Int.le_trans hd (h1 z hz),h⟩
  |false=>
   simp only[decide_eq_false_iff_not]at hd;refine eM.2 ⟨λz hz=>?_,r_ x r h2⟩;rcases ah.1 ((rQ x r).mem_iff.1 hz)with rfl|hz
   .omega
   .exact h1 z hz
theorem qZ:∀l:List Int,(rz l).Pairwise (·<=·)
 |[]=>by simp[rz]
 |x::r=>r_ x _ (qZ r)
theorem QW(l:List Int):yk l=rz l:=by
 have tr:∀a b c:Int,decide (a<=b)=true->decide (b<=c)=true->decide (a<=c)=true:=λa b c h1 h2=>by simp only[χ]at *;exact Int.le_trans h1 h2
 have to:∀a b:Int,(decide (a<=b)||decide (b<=a))=true:=λa b=>by simp only[cT,χ];exact Int.le_total a b
 refine List.Perm.eq_of_pairwise (le:=λa b:Int=>a<=b) (λa b _ _ h1 h2=>Int.le_antisymm h1 h2) ?_ (qZ l) ((List.mergeSort_perm _ _).trans (mM l).symm);exact(List.pairwise_mergeSort tr to l).imp λh=>by simpa using h
def ru(im:Im)(fn:Fn):Nat->Sn->List Int->Option (Except (Int×Int) Sn)
 |0,_,_=>none
 |n+1,s,l=>bif Ee l then(match rz l with
  |[]=>some (.ok s)
  |x::_=>(match gF s x 0,fn.code[x.toNat]? with
   |some (_,h),some o=>bif Ht x h then(match inf o.c with
    |some i=>(match rk im fn.code.length o i x h s (era l x) with
     |.ok q=>ru im fn n q.1 q.2
     |.error e=>some (.error (x,e)))
    |none=>none)else none
   |_,_=>none))else none
def nM(im:Im)(fn:Fn)(n:Nat):Option (Except (Int×Int) Sn):=
 match jy im fn fn.code 0 with
 |some e=>some (.error e)
 |none=>ru im fn n [(0,(0,0))] [0]
theorem rq{im:Im}{fn:Fn}:∀{l:List Op}{x:Int},jy im fn l x=none->∀o∈l,jc im fn o=none
 |p::r,x,h,o,ho=>by
  simp only[jy]at h;cases hp:jc im fn p with
  |some e=>rw[hp]at h;cases h
  |none=>
   rw[hp]at h;rcases ah.1 ho with ho|ho
   .subst ho;exact hp
   .exact rq h o ho
theorem CA{K:KT}{im:Im}{fn:Fn}{x:Int}{r:Except Int (Sn×List Int)}(h1:∀q,r=.ok q->K (.ret (.tu [])) (wB im fn q.1 q.2))(h2:∀e,r=.error e->∀s l,K (.eU (pB x e)) (wB im fn s l)):ua K im fn x r:=by
 cases r with
 |ok q=>exact h1 q rfl
 |error e=>exact h2 e rfl
def XN(K:Out->H->Prop)(r:Except (Int×Int) Sn):Prop:=
 match r with
 |.ok s=>K (.ret (.tu [.mp 0,.ag [.d (.int .i64 0),.d (.int .i64 0)]])) [.dm (me s)]
 |.error e=>K (.ret (.tu [.d .nm,.ag [.d (.int .i64 e.1),.d (.int .i64 e.2)]])) []
theorem Lm{l:List Int}(h:yk l=[]):l=[]:=by
 have:=κ List.length h;simp only[yk,List.length_mergeSort,ak]at this;exact bR this
theorem LZ {K:KT} (im:Im) (hI:CX im) (f:Nat) (fn:Fn) (hf:im.fs[f]? = some fn) (n:Nat) (R:Except (Int×Int) Sn) (hR:nM im fn n=some R) (hk:XN K R):Z1 57 [sC im,.d (.int .i64 f)] [] K:=by
  have hfn:=hI.f3 fn (aG hf)
  have hfn':=hfn
  simp only[tt,aO,χ,aP]at hfn
  obtain⟨f1,f2,f3,f4,f5,f6,f7,f8⟩:=hfn
  have hfl:f<im.fs.length:=(aC.1 hf).1
  have hfl2:=hI.f2
  refine s57 (keep:=false) rfl ?_
  unfold R_
  repeat' ((conv=>whnf);first|exact zf|refine zm ?_|refine zB ?_ ?_|intro _)
  refine⟨bc fn,⟨by omega,by simp[hf],rfl⟩,?_⟩
  repeat' ((conv=>whnf);first|exact zf|refine zm ?_|refine zB ?_ ?_|intro _)
  conv=>whnf
  refine bA [(4,.p 1 0),(5,.p 2 0),(6,.p 5 0),(22,.d (.int .i64 (fn.code.map cV).length))] (λi:Nat=>i<=fn.code.length/\jy im fn (fn.code.drop i) i=jy im fn fn.code 0) (λi=>[(23,.d (.int .i64 i))]) (λ_=>[.cells [.d (.sl 5 (im.cs.map b9)),.d (.sl 3 (im.fs.map bc))],.cells [.d .nm],.cells [.d (.int .i64 0),.d (.int .i64 0)],.dm (me []),.dm (fR []),.cells [.d (.sl 5 (im.cs.map b9)),.d (.sl 3 (im.fs.map bc)),.d (.int .i64 fn.args),.d (.int .i64 fn.vars),.d (.sl 2 (fn.code.map cV)),.mp 3,.mp 4]]) (λi=>fn.code.length-i) 0 ⟨aY _,by simp⟩ ?_ ?_ ?_ (λi ⟨hi,he⟩=>?_)
  · exact zzz
  · exact zzz
  · exact rfl
  repeat' ((conv=>whnf);first|exact zf|refine zm ?_|refine zB ?_ ?_|intro _)
  refine aU (λhlt=>?_) (λhge=>?_)
  · have hlt:i<fn.code.length:=by simpa using hlt
    obtain⟨o,ho⟩:∃o,fn.code[i]?=some o:=⟨_,aA hlt⟩
    have hdr:fn.code.drop i=o::fn.code.drop (i+1):=by
      rw[bC hlt]
      rw[aA hlt]at ho
      cases ho
      rfl
    rw[hdr]at he
    simp only[jy]at he
    repeat' ((conv=>whnf);first|exact zf|refine zm ?_|refine zr0 ?_|refine zB ?_ ?_|intro _)
    refine Ea im fn i o [] [] (by omega) (by simpa using ho) (f8 o (aG ho)) hfn' ?_
    cases hoe:jc im fn o with
    |none=>
      rw[hoe]at he
      repeat' ((conv=>whnf);first|exact zf|refine zm ?_|refine zi0 ?_|refine zB ?_ ?_|intro _)
      refine⟨i+1,⟨hlt,by simpa using he⟩,aN hlt (aQ i),zzz,zzz,rfl⟩
    |some e=>
      rw[hoe]at he
      have hR':R=.error (i,e):=by
        unfold nM at hR
        rw[<-he]at hR
        simpa using hR.symm
      rw[hR']at hk
      repeat' ((conv=>whnf);first|exact zf|refine zm ?_|refine zB ?_ ?_|intro _)
      refine HU _ _ _ _ _ ?_
      repeat' ((conv=>whnf);first|exact zf|refine zm ?_|refine zB ?_ ?_|intro _)
      exact hk
  · have hge:i=fn.code.length:=by
      have:¬i<fn.code.length:=by simpa using hge
      omega
    have hno:jy im fn fn.code 0=none:=by
      rw[<-he,hge,du]
      rfl
    have hL:ru im fn n [(0,(0,0))] [0]=some R:=by
      unfold nM at hR
      rw[hno]at hR
      exact hR
    repeat' ((conv=>whnf);first|exact zf|refine zm ?_|refine zr0 ?_|refine zB ?_ ?_|intro _)
    refine g_ im fn [] [] 0 0 0 0 (λq hq=>?_) (λhq=>by cases hq)
    obtain rfl:q=([(0,(0,0))],[0]):=(af hq).symm
    repeat' ((conv=>whnf);first|exact zf|refine zm ?_|refine zB ?_ ?_|intro _)
    conv=>whnf
    refine bA [(4,.p 1 0),(5,.p 2 0),(6,.p 5 0)] (λp:Nat×Sn×List Int=>ru im fn p.1 p.2.1 p.2.2=some R) (λ_=>[]) (λp=>[.cells [.d (.sl 5 (im.cs.map b9)),.d (.sl 3 (im.fs.map bc))],.cells [.d .nm],.cells [.d (.int .i64 0),.d (.int .i64 0)],.dm (me p.2.1),.dm (fR p.2.2),.cells [.d (.sl 5 (im.cs.map b9)),.d (.sl 3 (im.fs.map bc)),.d (.int .i64 fn.args),.d (.int .i64 fn.vars),.d (.sl 2 (fn.code.map cV)),.mp 3,.mp 4]]) (λp=>p.1) (n,[(0,(0,0))],[0]) hL ?_ ?_ ?_ (λ⟨m,s,l⟩ hL=>?_)
    · exact zzz
    · exact zzz
    · exact rfl
    replace hL:ru im fn m s l=some R:=hL
    cases m with
    |zero=>cases hL
    |succ m=>
      unfold ru at hL
      cases hok:Ee l with
      |false=>rw[hok]at hL;cases hL
      |true=>
        rw[hok]at hL
        simp only[δ]at hL
        rw[<-QW]at hL
        have hsl:(yk l).length=l.length:=by simp only[yk,List.length_mergeSort]
        have hol:(fR l).length=l.length:=by simp[fR]
        cases hs:yk l with
        |nil=>
          rw[hs]at hL
          simp only[aD]at hL
          subst hL
          have hl:l=[]:=Lm hs
          subst hl
          repeat' ((conv=>whnf);first|exact zf|refine zm ?_|refine zB ?_ ?_|intro _)
          refine Qk _ _ _ ?_
          repeat' ((conv=>whnf);first|exact zf|refine zm ?_|refine zB ?_ ?_|intro _)
          exact hk
        |cons x xs=>
          rw[hs]at hL
          simp only at hL
          have hlp:0<l.length:=by rw[<-hsl,hs];simp
          have hsrt:=yl l hok
          rw[hs]at hsrt
          repeat' ((conv=>whnf);first|exact zf|refine zm ?_|refine zB ?_ ?_|intro _)
          refine bf (φ (by rw[hol];omega)) ?_
          repeat' ((conv=>whnf);first|exact zf|refine zm ?_|refine zr0 ?_|refine zB ?_ ?_|intro _)
          refine Rm _ ?_
          repeat' ((conv=>whnf);first|exact zf|refine zm ?_|refine zr0 ?_|refine zB ?_ ?_|intro _)
          refine hsrt.mono λout h' hh=>?_
          obtain⟨rfl,rfl⟩:=hh
          obtain⟨j,hj⟩:∃j,rL l x 0=some j:=uC 0 ((List.mergeSort_perm l _).mem_iff.1 (show x∈yk l by rw[hs];simp))
          have ho:=u6 x l 0
          rw[hj]at ho
          have he:(fR l).eraseIdx j=fR (era l x):=by rw[BM];simp only[era,hj]
          repeat' ((conv=>whnf);first|exact zf|refine zm ?_|refine(And.intro ⟨eT _,by simp only[p4,aI,aZ];omega,rfl⟩ ?_)|refine zc ho ?_|refine zr0 ?_|refine zB ?_ ?_|refine⟨_,⟨by decide,rfl,rfl⟩,?_⟩|refine⟨_,rfl,?_⟩|intro _)
          split at hL
          · rename_i q h o hlk hoo
            cases hhr:Ht x h with
            |false=>rw[hhr]at hL;cases hL
            |true=>
              rw[hhr]at hL
              simp only[Ht,aO,χ]at hhr
              simp only[δ]at hL
              split at hL
              · rename_i i hi
                have hoe:jc im fn o=none:=rq hno o (aG hoo)
                obtain⟨_,_,ha,_⟩:=vq (f8 o (aG hoo))
                refine Al im fn x o i s (era l x) _ he hI ⟨hhr.1,hhr.2.1⟩ hoo hi hoe ha q h hlk hhr.2.2 (CA (λr hr=>?_) (λe hr s' l'=>?_))
                · rw[hr]at hL
                  repeat' ((conv=>whnf);first|exact zf|refine zm ?_|refine zB ?_ ?_|intro _)
                  refine⟨(m,r.1,r.2),hL,aQ m,zzz,zzz,rfl⟩
                · rw[hr]at hL
                  simp only[aD]at hL
                  subst hL
                  repeat' ((conv=>whnf);first|exact zf|refine zm ?_|refine zB ?_ ?_|intro _)
                  refine HU _ _ _ _ _ ?_
                  repeat' ((conv=>whnf);first|exact zf|refine zm ?_|refine zB ?_ ?_|intro _)
                  exact hk
              · cases hL
          · cases hL
end Go.Proofs.YtmigecldjbgneaaGreatDoor