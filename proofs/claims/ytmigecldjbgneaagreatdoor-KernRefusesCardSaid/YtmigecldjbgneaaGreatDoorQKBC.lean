/- Lemmas. Conditions: none. -/
import Derived.Test.YtmigecldjbgneaaGreatDoorQKBB
set_option maxHeartbeats 16000000
namespace Go.Proofs.YtmigecldjbgneaaGreatDoor
open Go.Vx
set_option maxRecDepth 100000
def zA(k:Kn)(t:Th)(o:Ob):Kn:=xL {k with s:=(mz t k.s o.v o.ex).s} (mz t k.s o.v o.ex).t
def gu(k:Kn)(id x:List UInt8):Option (Th×Ob):=match dy x k.th,bw id k.s.th with
 |some (_,t),some (_,o)=>bif (decide (t.st=1)&&decide (t.on=id))&&(decide (o.k=6)&&o.dn)then some (t,o)else none
 |_,_=>none
def oP:Nat->Kn->List UInt8->Kn
 |0,k,_=>k
 |n+1,k,id=>k.ord.foldl (λk x=>match gu k id (b8 x) with
  |some (t,o)=>bif (mz t k.s o.v o.ex).d then oP n (zA k t o) (b8 x)else zA k t o
  |none=>k) k
def nC(n:Nat)(k:Kn)(id x:List UInt8):Kn:=match gu k id x with
 |some (t,o)=>bif (mz t k.s o.v o.ex).d then oP n (zA k t o) x else zA k t o
 |none=>k
theorem mT(n:Nat)(k:Kn)(id:List UInt8):oP (n+1) k id=k.ord.foldl (λk x=>nC n k id (b8 x)) k:=rfl
theorem u5{f:Kn->List Nat->Kn}(h:∀k x,(f k x).ord=k.ord):∀(l:List (List Nat))(k:Kn),(l.foldl f k).ord=k.ord
 |[],k=>rfl
 |x::l,k=>by rw[gb,u5 h l,h]
theorem xm{f:Kn->List Nat->Kn}{I:Kn->Prop}(h:∀k x,I k->I (f k x)):∀(l:List (List Nat))(k:Kn),I k->I (l.foldl f k)
 |[],_,hk=>hk
 |x::l,k,hk=>xm h l _ (h k x hk)
theorem wS:∀(n:Nat)(k:Kn)(id:List UInt8),(oP n k id).ord=k.ord
 |0,k,id=>rfl
 |n+1,k,id=>by
  rw[mT];refine u5 (λk x=>?_) _ _;unfold nC;split
  .rename_i t o _;cases(mz t k.s o.v o.ex).d
   .rfl
   .rw[δ,wS n];rfl
  .rfl
theorem KA(n:Nat)(k:Kn)(id x:List UInt8):(nC n k id x).ord=k.ord:=by
 unfold nC;split
 .rename_i t o _;cases(mz t k.s o.v o.ex).d
  .rfl
  .rw[δ,wS n];rfl
 .rfl
structure MW(k:Kn):Prop where
  fr:∀p∈k.th,p.2.c.fr.length<1000000000
  st:∀p∈k.th,p.2.c.st.length<1000000000
  q:∀p∈k.s.th,p.2.va.q.length<90000000
structure DI(I:Nat->Kn->Prop):Prop where
  ok:∀{n k},I n k->MW k
  st:∀{n k id x t o},I n k->gu k id x=some (t,o)->∃m,n=m+1/\I m (zA k t o)
  up:∀{n k},I n k->I (n+1) k
theorem CG{I:Nat->Kn->Prop}(hI:DI I):∀(n:Nat)(k:Kn)(id x:List UInt8),I n k->I n (nC n k id x)
 |n,k,id,x,h=>by
  unfold nC;split
  .rename_i t o hw;obtain⟨m,rfl,hm⟩:=hI.st h hw;cases(mz t k.s o.v o.ex).d
   .exact hI.up hm
   .rw[δ,mT];exact hI.up (xm (λk x hk=>CG hI m k _ _ hk) _ _ hm)
  .exact h
theorem NO{I:Nat->Kn->Prop}(hI:DI I)(n:Nat)(k:Kn)(id:List UInt8)(h:I n k):I n (oP (n+1) k id):=by
 rw[mT];exact xm (λk x hk=>CG hI n k _ _ hk) _ _ h
theorem MW.Vo{k:Kn}(h:MW k)(nm:List UInt8):yt k.s nm:=λi o ho=>by
 obtain⟨p,hp,e⟩:=gW ho;have:=h.q p hp;rw[show p.2=o from e]at this;omega
def WA(k:Kn)(id:List UInt8):H:=[.cells [.p 1 0],FE k 2 3 4 7 8,.dm (k_ k.th),GB true k.ord,.cells [.mp 5,.mp 6],.dm (iW k.s.th),.ms 1 (ik k.s.nm) none none,.rows 9 (k.fa.map fm),.rows 8 (k.le.map jT),.cells [.d (.str id)]]
def XU(k:Kn)(id:List UInt8):H:=[GB true k.ord,.cells [.p 2 0],FE k 3 0 4 7 8,.dm (k_ k.th),.cells [.mp 5,.mp 6],.dm (iW k.s.th),.ms 1 (ik k.s.nm) none none,.rows 9 (k.fa.map fm),.rows 8 (k.le.map jT),.cells [.d (.str id)]]
theorem VQ{K:KT}(n:Nat)(k:Kn)(id x:List UInt8)(ho:MW k)(hr:∀t o,gu k id x=some (t,o)->(mz t k.s o.v o.ex).d=true->∀K:Out->H->Prop,K (.ret (.tu [])) (fU true (oP n (zA k t o) x))->Z1 71 [.p 0 0,.d (.str x)] (fU true (zA k t o)) K)
  (hk:K (.ret (.tu [])) (WA (nC n k id x) id)):Z1 110 [.d (.str x),.p 0 0,.p 9 0] (WA k id) K:=by
 have hm:=pg x k.th 0;have hqs:=ho.Vo id;have hqo:(fy k.s id).va.q.length<100000000:=by
  unfold fy;cases hlk:bw id k.s.th with
  |none=>simp[fo,BX]
  |some p=>exact hqs p.1 p.2 hlk
 have hg:=qb (K:=λout h=>out=.ret (.tu [jG (fy k.s id),.d (.bool (l9 k.s id))])/\h=mZ k.s) k.s id hqo ⟨rfl,rfl⟩;unfold fy l9 at hg;unfold nC at hk;cases h:dy x k.th with
 |none=>
  have hw:gu k id x=none:=by unfold gu;rw[h]
  rw[h]at hm;rw[hw]at hk;refine sh0 Tryz.f110 ?_
  repeat' ((conv=>whnf);first|exact zf|refine zm ?_|refine zB ?_ ?_|intro _)
  refine⟨_,hm,?_⟩
  repeat' ((conv=>whnf);first|exact zf|refine zm ?_|refine zB ?_ ?_|refine zt ?_|refine zu ?_|intro _)
  exact hk
 |some p=>
  obtain⟨i,t⟩:=p;rw[h]at hm
  by_cases h1:t.st=1
  .by_cases h2:t.on=id
   .cases hl:bw id k.s.th with
    |none=>
     have hw:gu k id x=none:=by unfold gu;rw[h,hl]
     rw[hw]at hk;rw[hl]at hg;refine sh0 Tryz.f110 ?_
     repeat' ((conv=>whnf);first|exact zf|refine zm ?_|refine zB ?_ ?_|intro _)
     refine⟨_,hm,?_⟩
     repeat' ((conv=>whnf);first|exact zf|refine da _ _ [111] ?_ rfl|refine a8 (a8 ?_)|refine zm ?_|refine Sat.eqs (hg) ?_|refine zr0 ?_|refine zB ?_ ?_|refine zt ?_|refine zu ?_|intro _)
     all_goals exact hk
    |some q=>
     obtain⟨i2,o⟩:=q;rw[hl]at hg
     by_cases h6:o.k=6
     .cases hd:o.dn with
      |false=>
       have hw:gu k id x=none:=by unfold gu;rw[h,hl];simp[h1,h2,h6,hd]
       rw[hw]at hk;refine sh0 Tryz.f110 ?_
       repeat' ((conv=>whnf);first|exact zf|refine zm ?_|refine zB ?_ ?_|intro _)
       refine⟨_,hm,?_⟩
       repeat' ((conv=>whnf);first|exact zf|refine da _ _ [111] ?_ rfl|refine a8 (a8 ?_)|refine zm ?_|refine Sat.eqs (hg) ?_|refine zr0 ?_|refine zB ?_ ?_|refine zt ?_|refine zu ?_|intro _)
       all_goals exact hk
      |true=>
       have hw:gu k id x=some (t,o):=by unfold gu;rw[h,hl];simp[h1,h2,h6,hd]
       rw[hw]at hk;have hr:=hr t o hw;obtain⟨pt,hpt,ept⟩:=oh h;have h3:=λ{K:KT}=>MA (K:=K) t k.s o.v o.ex (by rw[<-show pt.2=t from ept];exact ho.fr _ hpt) (by rw[<-show pt.2=t from ept];exact ho.st _ hpt) (ho.Vo _);unfold zA at hr hk;dsimp only at hk;generalize mz t k.s o.v o.ex=r at h3 hr hk;obtain⟨t',e',d',s'⟩:=r;have h4:=λ{K:KT}=>zE (K:=K) true {k with s:=s'} t';cases d' with
       |false=>
        refine sh0 Tryz.f110 ?_
        repeat' ((conv=>whnf);first|exact zf|refine zm ?_|refine zB ?_ ?_|intro _)
        refine⟨_,hm,?_⟩
        repeat' ((conv=>whnf);first|exact zf|refine(a8 (a8 ?_))|refine da _ _ [111] ?_ rfl|refine a8 (a8 ?_)|refine zm ?_|refine Sat.eqs (hg) ?_|refine zr0 ?_|refine zr0 ?_|refine(h3 ?_)|refine(h4 ?_)|refine zB ?_ ?_|refine zt ?_|refine zu ?_|intro _)
        all_goals exact hk
       |true=>
        have h5:=λ{K:KT}=>hr rfl K;refine sh0 Tryz.f110 ?_
        repeat' ((conv=>whnf);first|exact zf|refine zm ?_|refine zB ?_ ?_|intro _)
        refine⟨_,hm,?_⟩
        repeat' ((conv=>whnf);first|exact zf|refine(a8 (a8 ?_))|refine da _ _ [111] ?_ rfl|refine a8 (a8 ?_)|refine zm ?_|refine Sat.eqs (hg) ?_|refine zr0 ?_|refine zr0 ?_|refine(h3 ?_)|refine(h4 ?_)|refine(h5 ?_)|refine zB ?_ ?_|refine zt ?_|refine zu ?_|intro _)
        all_goals exact hk
     .have hw:gu k id x=none:=by unfold gu;rw[h,hl];simp[h6]
      rw[hw]at hk;refine sh0 Tryz.f110 ?_
      repeat' ((conv=>whnf);first|exact zf|refine zm ?_|refine zB ?_ ?_|intro _)
      refine⟨_,hm,?_⟩
      repeat' ((conv=>whnf);first|exact zf|refine da _ _ [111] ?_ rfl|refine a8 (a8 ?_)|refine zm ?_|refine Sat.eqs (hg) ?_|refine zr0 ?_|refine zB ?_ ?_|refine zt ?_|refine zu ?_|intro _)
      all_goals exact hk
   .have hw:gu k id x=none:=by
     unfold gu;rw[h];cases bw id k.s.th<;>simp[h2]
    rw[hw]at hk;refine sh0 Tryz.f110 ?_
    repeat' ((conv=>whnf);first|exact zf|refine zm ?_|refine zB ?_ ?_|intro _)
    refine⟨_,hm,?_⟩
    repeat' ((conv=>whnf);first|exact zf|refine zm ?_|refine zB ?_ ?_|refine zt ?_|refine zu ?_|intro _)
    exact hk
  .have hw:gu k id x=none:=by
    unfold gu;rw[h];cases bw id k.s.th<;>simp[h1]
   rw[hw]at hk;refine sh0 Tryz.f110 ?_
   repeat' ((conv=>whnf);first|exact zf|refine zm ?_|refine zB ?_ ?_|intro _)
   refine⟨_,hm,?_⟩
   repeat' ((conv=>whnf);first|exact zf|refine zm ?_|refine zB ?_ ?_|refine zt ?_|refine zu ?_|intro _)
   exact hk
theorem VL{K:KT}(n:Nat)(k:Kn)(id:List UInt8)(hc:∀j x,k.ord[j]?=some x->∀K:Out->H->Prop,K (.ret (.tu [])) (WA (nC n ((k.ord.take j).foldl (λk x=>nC n k id (b8 x)) k) id (b8 x)) id)->Z1 110 [.d (.str (b8 x)),.p 0 0,.p 9 0] (WA ((k.ord.take j).foldl (λk x=>nC n k id (b8 x)) k) id) K)
  (hk:K (.ret (.tu [])) (XU (oP (n+1) k id) id)):Z1 59 [.os 0,.fc 110 [.p 1 0,.p 9 0]] (XU k id) K:=by
 have e1:(cM (k.ord.map b8)).length=k.ord.length:=by rw[ff,aI]
 rw[mT]at hk;refine sh0 Tryz.f59 ?_
 repeat' ((conv=>whnf);first|exact zf|refine zm ?_|refine zB ?_ ?_|intro _)
 conv=>whnf
 refine bA [(1,.fc 110 [.p 1 0,.p 9 0]),(6,.os 0),(7,.d (.int .i64 (cM (k.ord.map b8)).length))] (λj:Nat=>j<=k.ord.length) (λj=>[(8,.d (.int .i64 j))]) (λj=>XU ((k.ord.take j).foldl (λk x=>nC n k id (b8 x)) k) id) (λj=>k.ord.length-j) 0 (aY _) ?_ ?_ ?_ (λj hi=>?_)
 .exact zzz
 .exact zzz
 .exact rfl
 repeat' ((conv=>whnf);first|exact zf|refine zm ?_|refine zB ?_ ?_|intro _)
 refine aU (λhlt=>?_) (λhge=>?_)
 .have hlt:j<k.ord.length:=by rw[<-e1];simpa using hlt
  obtain⟨x,hx⟩:∃x,k.ord[j]?=some x:=⟨_,aA hlt⟩
  have h2:=λ{K:KT}=>hc j x hx K;have e3:nC n ((k.ord.take j).foldl (λk x=>nC n k id (b8 x)) k) id (b8 x)=(k.ord.take (j+1)).foldl (λk x=>nC n k id (b8 x)) k:=by rw[bV,hx];simp
  have e2:((k.ord.take j).foldl (λk x=>nC n k id (b8 x)) k).ord=k.ord:=u5 (λk x=>KA n k id (b8 x)) _ _;rw[e3]at h2;generalize(k.ord.take j).foldl (λk x=>nC n k id (b8 x)) k=k1 at h2 e2⊢;have hrow:(cM (k1.ord.map b8))[j]?=some [D.str (b8 x)]:=by rw[e2];simp[cM,hx]
  have e4:(cM (k1.ord.map b8)).length=k.ord.length:=by rw[ff,aI,e2]
  repeat' ((conv=>whnf);first|exact zf|refine zm ?_|refine⟨[.str (b8 x)],hrow,?_⟩|refine zr0 ?_|refine(h2 ?_)|refine zB ?_ ?_|intro _)
  refine⟨j+1,hlt,aN hlt (aQ j),zzz,zzz,rfl⟩
 .have hge:j=k.ord.length:=by
   have h1:¬j<k.ord.length:=by rw[<-e1];simpa using hge
   omega
  subst hge;rw[cG]
  repeat' ((conv=>whnf);first|exact zf|refine zm ?_|refine zB ?_ ?_|intro _)
  exact hk
theorem Pl{I:Nat->Kn->Prop}(hI:DI I)(n:Nat)(hr:∀m,n=m+1->∀(k:Kn)(id:List UInt8),I m k->∀K:Out->H->Prop,K (.ret (.tu [])) (fU true (oP (m+1) k id))->Z1 71 [.p 0 0,.d (.str id)] (fU true k) K)
  (lk:Bool) (k:Kn) (id:List UInt8) (h:I n k) (K:Out->H->Prop) (hk:K (.ret (.tu [])) (fU lk (oP (n+1) k id))):Z1 71 [.p 0 0,.d (.str id)] (fU lk k) K:=by
 have h2:=λ{K:KT}=>VL (K:=K) n k id (λj x hx K hK=>by
  have hj:I n ((k.ord.take j).foldl (λk x=>nC n k id (b8 x)) k):=xm (λk x hk=>CG hI n k _ _ hk) _ _ h;refine VQ n _ id (b8 x) (hI.ok hj) (λt o hw _ K hK=>?_) hK;obtain⟨m,rfl,hm⟩:=hI.st hj hw;exact hr m rfl _ _ hm K hK)
 cases lk
 all_goals
  refine sh0 Tryz.f71 ?_
  repeat' ((conv=>whnf);first|exact zf|refine zm ?_|refine(h2 ?_)|refine zB ?_ ?_|intro _)
  exact hk
theorem Pm{I:Nat->Kn->Prop}(hI:DI I):∀(n:Nat)(lk:Bool)(k:Kn)(id:List UInt8),I n k->∀K:Out->H->Prop,K (.ret (.tu [])) (fU lk (oP (n+1) k id))->Z1 71 [.p 0 0,.d (.str id)] (fU lk k) K
  |0=>Pl hI 0 (λm e=>by omega)
  |n+1 => Pl hI (n+1) (λm e=>by(obtain rfl:n=m:=by omega);exact Pm hI n true)
def mE(c:Ca)(v:Va):Ca:={c with t:={c.t with c:=jb c.t.c v}}
def SJ(c:Ca)(s:br):OR:=.ok .no λ_=>(mE c ⟨2,0,[],c.t.g.cur.s,c.t.g.cur.i⟩,s)
def SN(c:Ca)(s:br):OR:=.ok .no λ_=>(mE c ⟨2,0,[],c.t.g.gT.s,c.t.g.gT.i⟩,s)
theorem SK{K:KT}(c:Ca)(s:br)(hl:c.t.c.st.length<1000000000)(hk:(SJ c s).K K):Z1 198 [.p 0 0] (fE c s) K:=by
 have h1:=λ{K:KT}=>DL (K:=K) c s c.t.g.cur hl;refine sh0 Tryz.f198 ?_
 repeat' ((conv=>whnf);first|exact zf|refine zm ?_|refine zr0 ?_|refine(h1 ?_)|refine zB ?_ ?_|intro _)
 exact hk none
theorem SO{K:KT}(c:Ca)(s:br)(hl:c.t.c.st.length<1000000000)(hk:(SN c s).K K):Z1 199 [.p 0 0] (fE c s) K:=by
 have h1:=λ{K:KT}=>DL (K:=K) c s c.t.g.gT hl;refine sh0 Tryz.f199 ?_
 repeat' ((conv=>whnf);first|exact zf|refine zm ?_|refine zr0 ?_|refine(h1 ?_)|refine zB ?_ ?_|intro _)
 exact hk none
def x6(c:Ca)(s:br):OR:=bif cH [2] c.ar then
 (bif j2 c.t.g (bF (c.ar[0]?.getD ck))==0 then .ok .no λ_=>({c with t:={c.t with g:=uE c.t.g (bF (c.ar[0]?.getD ck))}},s)else .ex (j2 c.t.g (bF (c.ar[0]?.getD ck))) c s)else .ex (-1) c s
theorem JE{K:KT}(c:Ca)(s:br)(m:Va)(har:c.ar=[m])(hs:jl c.t.g)(hl:cC (bF m))(hk:(x6 c s).K K):Z1 201 [.p 0 0] (fE c s) K:=by
 obtain⟨im,now,t,tr,o,ar,ma⟩:=c;subst har;have h2:=JD t.g (bF m) hs hl;unfold x6 at hk;cases hb:cH [2] [m] with
 |true=>
  have h1:=λ{K:KT}=>dp (K:=K) ⟨im,now,t,tr,o,[m],ma⟩ s [2] (aL _) hb;dsimp only at hk;rw[hb,δ]at hk
  replace hk:OR.K (bif j2 t.g (bF m)==0 then .ok .no λ_=>(⟨im,now,{t with g:=uE t.g (bF m)},tr,o,[m],ma⟩,s)else .ex (j2 t.g (bF m)) ⟨im,now,t,tr,o,[m],ma⟩ s) K:=hk
  by_cases hw:j2 t.g (bF m)=0
  .rw[show(j2 t.g (bF m)==0)=true by simp[hw],δ]at hk;rw[hw]at h2;refine sh0 Tryz.f201 ?_
   repeat' ((conv=>whnf);first|exact zf|refine zm ?_|refine zr0 ?_|refine(h1 ?_)|refine zc h2 ?_|refine(jA ?_)|refine⟨_,⟨by omega,rfl,rfl⟩,?_⟩|refine zB ?_ ?_|intro _)
   exact hk none
  .rw[show(j2 t.g (bF m)==0)=false by simp[hw],ε]at hk;refine sh0 Tryz.f201 ?_
   repeat' ((conv=>whnf);first|exact zf|refine zm ?_|refine zr0 ?_|refine(h1 ?_)|refine zc h2 ?_|refine(lG _ hw ?_)|refine⟨_,⟨by omega,rfl,rfl⟩,?_⟩|refine zB ?_ ?_|intro _)
   exact hk
 |false=>
  have h1:=λ{K:KT}=>dq (K:=K) ⟨im,now,t,tr,o,[m],ma⟩ s [2] (aL _) hb;dsimp only at hk;rw[hb,ε]at hk;refine sh0 Tryz.f201 ?_
  repeat' ((conv=>whnf);first|exact zf|refine zm ?_|refine zr0 ?_|refine(h1 ?_)|refine zB ?_ ?_|intro _)
  exact hk
def B6(c:Ca)(f to:Lb)(b:Bool):Fx:=bif b then .log ⟨c.o.c,f,to,c.ma⟩else .no
theorem JI{K:KT}(c:Ca)(s:br)(g:Gs)(f to:Lb)(b:Bool)(hk:K (.ret (.tu [])) (Nc {c with t:={c.t with g:=g}} (B6 c f to b) false s)):Z1 282 [.p 0 0,GC g,lO f,lO to,.d (.bool b)] (fE c s) K:=by
 cases b with
 |true=>
  refine sh0 Tryz.f282 ?_
  repeat' ((conv=>whnf);first|exact zf|refine(iP ?_)|refine zm ?_|refine zB ?_ ?_|refine zt ?_|refine zu ?_|intro _)
  exact hk
 |false=>
  refine sh0 Tryz.f282 ?_
  repeat' ((conv=>whnf);first|exact zf|refine zm ?_|refine zB ?_ ?_|refine zt ?_|refine zu ?_|intro _)
  exact hk
def Dh(c:Ca)(s:br):OR:=bif cH [2] c.ar then
 (bif lq c.t.g (bF (c.ar[0]?.getD ck)) c.ma==0 then .ok (B6 c c.t.g.cur (bF (c.ar[0]?.getD ck)) (ug c.t.g (bF (c.ar[0]?.getD ck)) c.ma)) λ_=>({c with t:={c.t with g:=wR c.t.g (bF (c.ar[0]?.getD ck)) c.ma}},s)else .ex (lq c.t.g (bF (c.ar[0]?.getD ck)) c.ma) c s)else .ex (-1) c s
theorem NM{K:KT}(c:Ca)(s:br)(m:Va)(har:c.ar=[m])(hs:jl c.t.g)(hl:cC (bF m))(hk:(Dh c s).K K):Z1 214 [.p 0 0] (fE c s) K:=by
  obtain⟨im,now,t,tr,o,ar,ma⟩:=c
  subst har
  have h2:=NL t.g (bF m) ma hs hl
  unfold Dh at hk
  cases hb:cH [2] [m] with
  |true=>
    have h1:=λ{K:KT}=>dp (K:=K) ⟨im,now,t,tr,o,[m],ma⟩ s [2] (aL _) hb
    dsimp only at hk
    rw[hb,δ]at hk
    replace hk:OR.K (bif lq t.g (bF m) ma==0 then .ok (B6 ⟨im,now,t,tr,o,[m],ma⟩ t.g.cur (bF m) (ug t.g (bF m) ma)) λ_=>(⟨im,now,{t with g:=wR t.g (bF m) ma},tr,o,[m],ma⟩,s)else .ex (lq t.g (bF m) ma) ⟨im,now,t,tr,o,[m],ma⟩ s) K:=hk
    by_cases hw:lq t.g (bF m) ma=0
    · rw [show (lq t.g (bF m) ma == 0) = true by simp [hw], δ] at hk
      have h3:=λ{K:KT}=>JI (K:=K) ⟨im,now,t,tr,o,[m],ma⟩ s (wR t.g (bF m) ma) t.g.cur (bF m) (ug t.g (bF m) ma)
      rw[hw]at h2
      replace hk:=hk none
      cases hL:ug t.g (bF m) ma
      all_goals
        rw[hL]at h2 h3 hk
        refine sh0 Tryz.f214 ?_
        repeat' ((conv=>whnf);first|exact zf|refine zm ?_|refine zr0 ?_|refine(h1 ?_)|refine zc h2 ?_|refine(jA ?_)|refine(h3 ?_)|refine⟨_,⟨by omega,rfl,rfl⟩,?_⟩|refine zB ?_ ?_|intro _)
        all_goals
          exact hk
    · rw[show(lq t.g (bF m) ma==0)=false by simp[hw],ε]at hk
      refine sh0 Tryz.f214 ?_
      repeat' ((conv=>whnf);first|exact zf|refine zm ?_|refine zr0 ?_|refine(h1 ?_)|refine zc h2 ?_|refine(lG _ hw ?_)|refine⟨_,⟨by omega,rfl,rfl⟩,?_⟩|refine zB ?_ ?_|intro _)
      all_goals
        exact hk
  |false=>
    have h1:=λ{K:KT}=>dq (K:=K) ⟨im,now,t,tr,o,[m],ma⟩ s [2] (aL _) hb
    dsimp only at hk
    rw[hb,ε]at hk
    refine sh0 Tryz.f214 ?_
    repeat' ((conv=>whnf);first|exact zf|refine zm ?_|refine zr0 ?_|refine(h1 ?_)|refine zB ?_ ?_|intro _)
    all_goals
      exact hk
def DQ(c:Ca)(s:br):OR:=bif cH [2] c.ar then
 (bif lX c.t.g (bF (c.ar[0]?.getD ck)) c.ma==0 then .ok (B6 c c.t.g.gT (bF (c.ar[0]?.getD ck)) (uI c.t.g (bF (c.ar[0]?.getD ck)) c.ma)) λ_=>({c with t:={c.t with g:=wD c.t.g (bF (c.ar[0]?.getD ck)) c.ma}},s)else .ex (lX c.t.g (bF (c.ar[0]?.getD ck)) c.ma) c s)else .ex (-1) c s
theorem Mg{K:KT}(c:Ca)(s:br)(m:Va)(har:c.ar=[m])(hs:jl c.t.g)(hl:cC (bF m))(hk:(DQ c s).K K):Z1 215 [.p 0 0] (fE c s) K:=by
  obtain⟨im,now,t,tr,o,ar,ma⟩:=c
  subst har
  have h2:=Mf t.g (bF m) ma hs hl
  unfold DQ at hk
  cases hb:cH [2] [m] with
  |true=>
    have h1:=λ{K:KT}=>dp (K:=K) ⟨im,now,t,tr,o,[m],ma⟩ s [2] (aL _) hb
    dsimp only at hk
    rw[hb,δ]at hk
    replace hk:OR.K (bif lX t.g (bF m) ma==0 then .ok (B6 ⟨im,now,t,tr,o,[m],ma⟩ t.g.gT (bF m) (uI t.g (bF m) ma)) λ_=>(⟨im,now,{t with g:=wD t.g (bF m) ma},tr,o,[m],ma⟩,s)else .ex (lX t.g (bF m) ma) ⟨im,now,t,tr,o,[m],ma⟩ s) K:=hk
    by_cases hw:lX t.g (bF m) ma=0
    · rw [show (lX t.g (bF m) ma == 0) = true by simp [hw], δ] at hk
      have h3:=λ{K:KT}=>JI (K:=K) ⟨im,now,t,tr,o,[m],ma⟩ s (wD t.g (bF m) ma) t.g.gT (bF m) (uI t.g (bF m) ma)
      rw[hw]at h2
      replace hk:=hk none
      cases hL:uI t.g (bF m) ma
      all_goals
        rw[hL]at h2 h3 hk
        refine sh0 Tryz.f215 ?_
        repeat' ((conv=>whnf);first|exact zf|refine zm ?_|refine zr0 ?_|refine(h1 ?_)|refine zc h2 ?_|refine(jA ?_)|refine(h3 ?_)|refine⟨_,⟨by omega,rfl,rfl⟩,?_⟩|refine zB ?_ ?_|intro _)
        all_goals
          exact hk
    · rw[show(lX t.g (bF m) ma==0)=false by simp[hw],ε]at hk
      refine sh0 Tryz.f215 ?_
      repeat' ((conv=>whnf);first|exact zf|refine zm ?_|refine zr0 ?_|refine(h1 ?_)|refine zc h2 ?_|refine(lG _ hw ?_)|refine⟨_,⟨by omega,rfl,rfl⟩,?_⟩|refine zB ?_ ?_|intro _)
      all_goals
        exact hk
  |false=>
    have h1:=λ{K:KT}=>dq (K:=K) ⟨im,now,t,tr,o,[m],ma⟩ s [2] (aL _) hb
    dsimp only at hk
    rw[hb,ε]at hk
    refine sh0 Tryz.f215 ?_
    repeat' ((conv=>whnf);first|exact zf|refine zm ?_|refine zr0 ?_|refine(h1 ?_)|refine zB ?_ ?_|intro _)
    all_goals
      exact hk
def qz(c:Ca)(s:br):OR:=bif cH [4,0] c.ar then
 (bif b5 c.t.g (bF (c.ar[0]?.getD ck))==0 then (match dD s (c.ar[0]?.getD ck) with
  |some (i,o)=>.ok .no λ_=>(c,jw s i (c.ar[0]?.getD ck).nm {o with v:=c.ar[1]?.getD ck})
  |none=>.ok .no λ_=>(c,s))else .ex (b5 c.t.g (bF (c.ar[0]?.getD ck))) c s)else .ex (-1) c s
theorem nP{s:br}{h:Va}{i:Nat}{o:Ob}(ht:dD s h=some (i,o)):bw h.nm s.th=some (i,o):=by
 unfold dD at ht;cases hl:bw h.nm s.th with
 |none=>rw[hl]at ht;cases ht
 |some p=>
  rw[hl]at ht;dsimp only at ht;cases hb:(p.2.k==h.k)&&((p.2.l.s==h.ls)&&(p.2.l.i==h.li)) with
  |true=>rw[hb]at ht;cases ht;rfl
  |false=>rw[hb]at ht;cases ht
theorem yW{K:KT}(c:Ca)(s:br)(h v:Va)(har:c.ar=[h,v])(hs:jl c.t.g)(hl:cC (bF h))(hqa:yt s h.nm)(hk:(qz c s).K K):Z1 206 [.p 0 0] (fE c s) K:=by
 obtain⟨im,now,t,tr,o,ar,ma⟩:=c;subst har;have h2:=gr t.g (bF h) hs hl;have h4:=λ{K:KT}=>ju (K:=K) ⟨im,now,t,tr,o,[h,v],ma⟩ s h hqa;unfold qz at hk;cases hb:cH [4,0] [h,v] with
 |true=>
  have h1:=λ{K:KT}=>dp (K:=K) ⟨im,now,t,tr,o,[h,v],ma⟩ s [4,0] (aL _) hb;dsimp only at hk;rw[hb,δ]at hk
  replace hk:OR.K (bif b5 t.g (bF h)==0 then(match dD s h with
   |some (i,ob)=>.ok .no λ_=>(⟨im,now,t,tr,o,[h,v],ma⟩,jw s i h.nm {ob with v:=v})
   |none=>.ok .no λ_=>(⟨im,now,t,tr,o,[h,v],ma⟩,s))else .ex (b5 t.g (bF h)) ⟨im,now,t,tr,o,[h,v],ma⟩ s) K:=hk
  by_cases hw:b5 t.g (bF h)=0
  .rw[show(b5 t.g (bF h)==0)=true by simp[hw],δ]at hk;rw[hw]at h2;unfold l_ at h4;cases ht:dD s h with
   |none=>
    rw[ht]at h4 hk;refine sh0 Tryz.f206 ?_
    repeat' ((conv=>whnf);first|exact zf|refine zm ?_|refine zr0 ?_|refine(h1 ?_)|refine zc h2 ?_|refine(jA ?_)|refine(h4 ?_)|refine⟨_,⟨by omega,rfl,rfl⟩,?_⟩|refine zB ?_ ?_|intro _)
    exact hk none
   |some p=>
    obtain⟨i,ob⟩:=p;rw[ht]at h4 hk;have hlk:=nP ht;have h5:=λ{K:KT}=>lC (K:=K) s h.nm i {ob with v:=v} ob hlk rfl rfl (hqa i ob hlk);refine sh0 Tryz.f206 ?_
    repeat' ((conv=>whnf);first|exact zf|refine zm ?_|refine zr0 ?_|refine(h1 ?_)|refine zc h2 ?_|refine(jA ?_)|refine(h4 ?_)|refine⟨_,⟨by omega,rfl,rfl⟩,?_⟩|refine(h5 ?_)|refine zB ?_ ?_|intro _)
    exact hk none
  .rw[show(b5 t.g (bF h)==0)=false by simp[hw],ε]at hk;refine sh0 Tryz.f206 ?_
   repeat' ((conv=>whnf);first|exact zf|refine zm ?_|refine zr0 ?_|refine(h1 ?_)|refine zc h2 ?_|refine(lG _ hw ?_)|refine⟨_,⟨by omega,rfl,rfl⟩,?_⟩|refine zB ?_ ?_|intro _)
   exact hk
 |false=>
  have h1:=λ{K:KT}=>dq (K:=K) ⟨im,now,t,tr,o,[h,v],ma⟩ s [4,0] (aL _) hb;dsimp only at hk;rw[hb,ε]at hk;refine sh0 Tryz.f206 ?_
  repeat' ((conv=>whnf);first|exact zf|refine zm ?_|refine zr0 ?_|refine(h1 ?_)|refine zB ?_ ?_|intro _)
  exact hk
inductive RQ where
  |ok (c:Ca) (s:br)
  |ex (n:Int) (c:Ca) (s:br)
def Fh(c:Ca)(s:br):H:=[.cells [.p 1 0],.cells (kr c [.nl 20,.nl 7,.nl 6,.nl 2,.d (.bool false)] (.d (.sl 5 (c.ar.map b9))) 2),.cells [.mp 3,.mp 4],.dm (iW s.th),.ms 1 (ik s.nm) none none]
def Dv(c:Ca)(s:br):H:=[.cells (kr c [.nl 20,.nl 7,.nl 6,.nl 2,.d (.bool false)] (.d (.sl 5 (c.ar.map b9))) 1),.cells [.mp 2,.mp 3],.dm (iW s.th),.ms 1 (ik s.nm) none none,.cells [.p 0 0]]
def RQ.Kb(r:RQ)(K:Out->H->Prop):Prop:=match r with
 |.ok c s=>K (.ret (.tu [])) (Fh c s)
 |.ex n c s=>K (.eU (pj n)) (Fh c s)
def RQ.Kt(r:RQ)(K:Out->H->Prop):Prop:=match r with
 |.ok c s=>K (.ret (.tu [])) (Dv c s)
 |.ex n c s=>K (.eU (pj n)) (Dv c s)
def RQ.or(r:RQ):OR:=match r with
 |.ok c s=>.ok .no λ_=>(c,s)
 |.ex n c s=>.ex n c s
def gz(c:Ca)(s:br)(h:Va)(go:Ca->br->Ob->RQ):RQ:=
 bif dY c.t.g (bF h)==0 then(match dD s h with
  |some (_,o)=>go {c with t:={c.t with g:=cj c.t.g (bF h)}} s o
  |none=>.ok {c with t:={c.t with g:=cj c.t.g (bF h),c:=jb c.t.c (num 0)}} s)else .ex (dY c.t.g (bF h)) c s
def tf(c:Ca)(s:br)(o:Ob):RQ:=.ok (mE c o.v) s
theorem BH{K:KT}(c:Ca)(s:br)(o:Ob)(hl:c.t.c.st.length<1000000000)(hk:(tf c s o).Kb K):Z1 266 [jG o,.p 0 0] (Fh c s) K:=by
 have h1:=λ{K:KT}=>kj (K:=K) c s o.v hl;refine sh0 Tryz.f266 ?_
 repeat' ((conv=>whnf);first|exact zf|refine zm ?_|refine zr0 ?_|refine(h1 ?_)|refine zB ?_ ?_|intro _)
 exact hk
def kz(c:Ca)(nm:List UInt8):Ca:={c with t:={c.t with st:=1,on:=nm}}
theorem nK{K:KT}(c:Ca)(s:br)(nm:List UInt8)(hk:K (.ret (.tu [])) (fE (kz c nm) s)):Z1 271 [.p 0 0,.d (.str nm)] (fE c s) K:=by
 refine sh0 Tryz.f271 ?_
 repeat' ((conv=>whnf);first|exact zf|refine zm ?_|refine zB ?_ ?_|intro _)
 exact hk
def nL(c:Ca)(s:br)(o:Ob):RQ:=bif o.dn then(bif o.ex then .ex o.v.n c s else .ok (mE c o.v) s)else .ok (kz c (c.ar[0]?.getD ck).nm) s
theorem LQ{K:KT}(c:Ca)(s:br)(o:Ob)(h:Va)(har:c.ar=[h])(hl:c.t.c.st.length<1000000000)(hk:(nL c s o).Kb K):Z1 279 [jG o,.p 0 0] (Fh c s) K:=by
 obtain⟨im,now,t,tr,op,ar,ma⟩:=c;subst har;obtain⟨k,l,v,ex,dn,va,fu,m⟩:=o;unfold nL at hk;cases dn with
 |true=>
  have h1:=λ{K:KT}=>Cb (K:=K) ⟨im,now,t,tr,op,[h],ma⟩ s ⟨k,l,v,ex,true,va,fu,m⟩ hl;cases ex with
  |true=>
   have h2:=λ{K:KT}(g:K (.eU (pj v.n)) (fE ⟨im,now,t,tr,op,[h],ma⟩ s))=>h1 (K:=K) g;refine sh0 Tryz.f279 ?_
   repeat' ((conv=>whnf);first|exact zf|refine zm ?_|refine zr0 ?_|refine(h2 ?_)|refine zB ?_ ?_|refine zt ?_|refine zu ?_|intro _)
   exact hk
  |false=>
   have h2:=λ{K:KT}(g:K (.ret (.tu [])) (fE (mE ⟨im,now,t,tr,op,[h],ma⟩ v) s))=>h1 (K:=K) λ_=>g;refine sh0 Tryz.f279 ?_
   repeat' ((conv=>whnf);first|exact zf|refine zm ?_|refine zr0 ?_|refine(h2 ?_)|refine zB ?_ ?_|refine zt ?_|refine zu ?_|intro _)
   exact hk
 |false=>
  have h1:=λ{K:KT}=>nK (K:=K) ⟨im,now,t,tr,op,[h],ma⟩ s h.nm;refine sh0 Tryz.f279 ?_
  repeat' ((conv=>whnf);first|exact zf|refine zm ?_|refine zr0 ?_|refine(h1 ?_)|refine⟨_,⟨by omega,rfl,rfl⟩,?_⟩|refine zB ?_ ?_|refine zt ?_|refine zu ?_|intro _)
  exact hk
def gU(im:Im)(f:Int):Int:=bif decide (f<0)||decide ((im.fs.length:Int)<=f)then 0 else((im.fs[f.toNat]?).map (·.vars)).getD 0
theorem w9{K:KT}(c:Ca)(s:br)(f:Int)(hk:K (.ret (.d (.int .i64 (gU c.im f)))) (fE c s)):Z1 277 [.p 0 0,.d (.int .i64 f)] (fE c s) K:=by
 have hml:(c.im.fs.map bc).length=c.im.fs.length:=aI _;unfold gU at hk
 by_cases h0:f<0
 .rw[φ h0,Bool.true_or,δ]at hk;refine sh0 Tryz.f277 ?_
  repeat' ((conv=>whnf);first|exact zf|refine zm ?_|refine zB ?_ ?_|refine zt ?_|refine zu ?_|intro _)
  exact hk
 .by_cases h1:(c.im.fs.length:Int)<=f
  .rw[φ h1,kU,δ]at hk;refine sh0 Tryz.f277 ?_
   repeat' ((conv=>whnf);first|exact zf|refine zm ?_|refine zB ?_ ?_|refine zt ?_|refine zu ?_|intro _)
   exact hk
  .rw[τ h0,τ h1]at hk;obtain⟨g,hg⟩:∃g,c.im.fs[f.toNat]?=some g:=⟨_,aA (by omega)⟩
   rw[hg]at hk;refine sh0 Tryz.f277 ?_
   repeat' ((conv=>whnf);first|exact zf|refine zm ?_|refine⟨bc g,⟨by omega,by rw[aB,hg];rfl,rfl⟩,?_⟩|refine zB ?_ ?_|refine zt ?_|refine zu ?_|intro _)
   exact hk
theorem HY{K:KT}(c:Ca)(s:br)(h:Va)(hl:c.t.c.st.length<1000000000)(hs:jl c.t.g)(hlh:cC (bF h))(hj:cC (dS c.t.g.cur (bF h)))(hqa:yt s h.nm)(hk:(gz c s h tf).Kt K):Z1 264 [.p 0 0,jh h,.fc 266 [.p 4 0]] (Dv c s) K:=by
 unfold gz at hk
 by_cases he:dY c.t.g (bF h)=0
 .have h1:=λ{K:KT}=>nR (K:=K) c s (bF h) hs hlh hj he;have h2:=λ{K:KT}=>ju (K:=K) {c with t:={c.t with g:=cj c.t.g (bF h)}} s h hqa;rw[he]at hk;unfold l_ at h2;cases ht:dD s h with
  |none=>
   rw[ht]at h2 hk
   replace hk:K (.ret (.tu [])) (Dv {c with t:={c.t with g:=cj c.t.g (bF h),c:=jb c.t.c (num 0)}} s):=hk
   have h3:=λ{K:KT}=>kj (K:=K) {c with t:={c.t with g:=cj c.t.g (bF h)}} s (num 0) hl;refine sh0 Tryz.f264 ?_
   repeat' ((conv=>whnf);first|exact zf|refine zm ?_|refine zr0 ?_|refine(h1 ?_)|refine(h2 ?_)|refine(h3 ?_)|refine zB ?_ ?_|intro _)
   exact hk
  |some p=>
   obtain⟨i,o⟩:=p;rw[ht]at h2 hk
   replace hk:(tf {c with t:={c.t with g:=cj c.t.g (bF h)}} s o).Kt K:=hk
   have h3:=λ{K:KT}=>BH (K:=K) {c with t:={c.t with g:=cj c.t.g (bF h)}} s o hl;generalize hR:tf {c with t:={c.t with g:=cj c.t.g (bF h)}} s o=R at h3 hk;cases R with
   |ok c' s'=>
    have h4:=λ{K:KT}(g:K (.ret (.tu [])) (Fh c' s'))=>h3 (K:=K) g;refine sh0 Tryz.f264 ?_
    repeat' ((conv=>whnf);first|exact zf|refine zm ?_|refine zr0 ?_|refine(h1 ?_)|refine(h2 ?_)|refine(h4 ?_)|refine zB ?_ ?_|intro _)
    exact hk
   |ex n c' s'=>
    have h4:=λ{K:KT}(g:K (.eU (pj n)) (Fh c' s'))=>h3 (K:=K) g;refine sh0 Tryz.f264 ?_
    repeat' ((conv=>whnf);first|exact zf|refine zm ?_|refine zr0 ?_|refine(h1 ?_)|refine(h2 ?_)|refine(h4 ?_)|refine zB ?_ ?_|intro _)
    exact hk
 .have hb:(dY c.t.g (bF h)==0)=false:=by simp[he]
  rw[hb]at hk;have h1:=λ{K:KT}=>nS (K:=K) c s (bF h) hs hlh hj he;refine sh0 Tryz.f264 ?_
  repeat' ((conv=>whnf);first|exact zf|refine zm ?_|refine zr0 ?_|refine(h1 ?_)|refine zB ?_ ?_|intro _)
  exact hk
theorem HV{K:KT}(c:Ca)(s:br)(h:Va)(har:c.ar=[h])(hl:c.t.c.st.length<1000000000)(hs:jl c.t.g)(hlh:cC (bF h))(hj:cC (dS c.t.g.cur (bF h)))(hqa:yt s h.nm)(hk:(gz c s h nL).Kt K):Z1 264 [.p 0 0,jh h,.fc 279 [.p 4 0]] (Dv c s) K:=by
 unfold gz at hk
 by_cases he:dY c.t.g (bF h)=0
 .have h1:=λ{K:KT}=>nR (K:=K) c s (bF h) hs hlh hj he;have h2:=λ{K:KT}=>ju (K:=K) {c with t:={c.t with g:=cj c.t.g (bF h)}} s h hqa;rw[he]at hk;unfold l_ at h2;cases ht:dD s h with
  |none=>
   rw[ht]at h2 hk
   replace hk:K (.ret (.tu [])) (Dv {c with t:={c.t with g:=cj c.t.g (bF h),c:=jb c.t.c (num 0)}} s):=hk
   have h3:=λ{K:KT}=>kj (K:=K) {c with t:={c.t with g:=cj c.t.g (bF h)}} s (num 0) hl;refine sh0 Tryz.f264 ?_
   repeat' ((conv=>whnf);first|exact zf|refine zm ?_|refine zr0 ?_|refine(h1 ?_)|refine(h2 ?_)|refine(h3 ?_)|refine zB ?_ ?_|intro _)
   exact hk
  |some p=>
   obtain⟨i,o⟩:=p;rw[ht]at h2 hk
   replace hk:(nL {c with t:={c.t with g:=cj c.t.g (bF h)}} s o).Kt K:=hk
   have h3:=λ{K:KT}=>LQ (K:=K) {c with t:={c.t with g:=cj c.t.g (bF h)}} s o h har hl;generalize hR:nL {c with t:={c.t with g:=cj c.t.g (bF h)}} s o=R at h3 hk;cases R with
   |ok c' s'=>
    have h4:=λ{K:KT}(g:K (.ret (.tu [])) (Fh c' s'))=>h3 (K:=K) g;refine sh0 Tryz.f264 ?_
    repeat' ((conv=>whnf);first|exact zf|refine zm ?_|refine zr0 ?_|refine(h1 ?_)|refine(h2 ?_)|refine(h4 ?_)|refine zB ?_ ?_|intro _)
    exact hk
   |ex n c' s'=>
    have h4:=λ{K:KT}(g:K (.eU (pj n)) (Fh c' s'))=>h3 (K:=K) g;refine sh0 Tryz.f264 ?_
    repeat' ((conv=>whnf);first|exact zf|refine zm ?_|refine zr0 ?_|refine(h1 ?_)|refine(h2 ?_)|refine(h4 ?_)|refine zB ?_ ?_|intro _)
    exact hk
 .have hb:(dY c.t.g (bF h)==0)=false:=by simp[he]
  rw[hb]at hk;have h1:=λ{K:KT}=>nS (K:=K) c s (bF h) hs hlh hj he;refine sh0 Tryz.f264 ?_
  repeat' ((conv=>whnf);first|exact zf|refine zm ?_|refine zr0 ?_|refine(h1 ?_)|refine zB ?_ ?_|intro _)
  exact hk
def qK(c:Ca)(s:br):OR:=bif cH [4] c.ar then(gz c s (c.ar[0]?.getD ck) tf).or else .ex (-1) c s
theorem BI{K:KT}(c:Ca)(s:br)(h:Va)(har:c.ar=[h])(hl:c.t.c.st.length<1000000000)(hs:jl c.t.g)(hlh:cC (bF h))(hj:cC (dS c.t.g.cur (bF h)))(hqa:yt s h.nm)(hk:(qK c s).K K):Z1 205 [.p 0 0] (fE c s) K:=by
 obtain⟨im,now,t,tr,o,ar,ma⟩:=c;subst har;have h2:=λ{K:KT}=>HY (K:=K) ⟨im,now,t,tr,o,[h],ma⟩ s h hl hs hlh hj hqa;unfold qK at hk;cases hb:cH [4] [h] with
 |true=>
  have h1:=λ{K:KT}=>dp (K:=K) ⟨im,now,t,tr,o,[h],ma⟩ s [4] (aL _) hb;dsimp only at hk;rw[hb,δ]at hk
  replace hk:(gz ⟨im,now,t,tr,o,[h],ma⟩ s h tf).or.K K:=hk
  generalize hR:gz ⟨im,now,t,tr,o,[h],ma⟩ s h tf=R at h2 hk;cases R with
  |ok c' s'=>
   have h3:=λ{K:KT}(g:K (.ret (.tu [])) (Dv c' s'))=>h2 (K:=K) g;refine sh0 Tryz.f205 ?_
   repeat' ((conv=>whnf);first|exact zf|refine zm ?_|refine zr0 ?_|refine(h1 ?_)|refine(h3 ?_)|refine⟨_,⟨by omega,rfl,rfl⟩,?_⟩|refine zB ?_ ?_|intro _)
   exact hk none
  |ex n c' s'=>
   have h3:=λ{K:KT}(g:K (.eU (pj n)) (Dv c' s'))=>h2 (K:=K) g;refine sh0 Tryz.f205 ?_
   repeat' ((conv=>whnf);first|exact zf|refine zm ?_|refine zr0 ?_|refine(h1 ?_)|refine(h3 ?_)|refine⟨_,⟨by omega,rfl,rfl⟩,?_⟩|refine zB ?_ ?_|intro _)
   exact hk
 |false=>
  have h1:=λ{K:KT}=>dq (K:=K) ⟨im,now,t,tr,o,[h],ma⟩ s [4] (aL _) hb;dsimp only at hk;rw[hb,ε]at hk;refine sh0 Tryz.f205 ?_
  repeat' ((conv=>whnf);first|exact zf|refine zm ?_|refine zr0 ?_|refine(h1 ?_)|refine zB ?_ ?_|intro _)
  exact hk
def C6(c:Ca)(s:br):OR:=bif cH [6] c.ar then(gz c s (c.ar[0]?.getD ck) nL).or else .ex (-1) c s
theorem LR{K:KT}(c:Ca)(s:br)(h:Va)(har:c.ar=[h])(hl:c.t.c.st.length<1000000000)(hs:jl c.t.g)(hlh:cC (bF h))(hj:cC (dS c.t.g.cur (bF h)))(hqa:yt s h.nm)(hk:(C6 c s).K K):Z1 211 [.p 0 0] (fE c s) K:=by
 obtain⟨im,now,t,tr,o,ar,ma⟩:=c;subst har;have h2:=λ{K:KT}=>HV (K:=K) ⟨im,now,t,tr,o,[h],ma⟩ s h rfl hl hs hlh hj hqa;unfold C6 at hk;cases hb:cH [6] [h] with
 |true=>
  have h1:=λ{K:KT}=>dp (K:=K) ⟨im,now,t,tr,o,[h],ma⟩ s [6] (aL _) hb;dsimp only at hk;rw[hb,δ]at hk
  replace hk:(gz ⟨im,now,t,tr,o,[h],ma⟩ s h nL).or.K K:=hk
  generalize hR:gz ⟨im,now,t,tr,o,[h],ma⟩ s h nL=R at h2 hk;cases R with
  |ok c' s'=>
   have h3:=λ{K:KT}(g:K (.ret (.tu [])) (Dv c' s'))=>h2 (K:=K) g;refine sh0 Tryz.f211 ?_
   repeat' ((conv=>whnf);first|exact zf|refine zm ?_|refine zr0 ?_|refine(h1 ?_)|refine(h3 ?_)|refine⟨_,⟨by omega,rfl,rfl⟩,?_⟩|refine zB ?_ ?_|intro _)
   exact hk none
  |ex n c' s'=>
   have h3:=λ{K:KT}(g:K (.eU (pj n)) (Dv c' s'))=>h2 (K:=K) g;refine sh0 Tryz.f211 ?_
   repeat' ((conv=>whnf);first|exact zf|refine zm ?_|refine zr0 ?_|refine(h1 ?_)|refine(h3 ?_)|refine⟨_,⟨by omega,rfl,rfl⟩,?_⟩|refine zB ?_ ?_|intro _)
   exact hk
 |false=>
  have h1:=λ{K:KT}=>dq (K:=K) ⟨im,now,t,tr,o,[h],ma⟩ s [6] (aL _) hb;dsimp only at hk;rw[hb,ε]at hk;refine sh0 Tryz.f211 ?_
  repeat' ((conv=>whnf);first|exact zf|refine zm ?_|refine zr0 ?_|refine(h1 ?_)|refine zB ?_ ?_|intro _)
  exact hk
def kH(c:Ca)(s:br)(o:Ob):RQ:=bif dW c.t.c then .ok {c with t:={c.t with c:=gK c.t.c o.fu (gU c.im o.fu) (c.ar.take 1) o.ma}} s else .ex (-6) c s
theorem Jy{K:KT}(c:Ca)(s:br)(o:Ob)(a h:Va)(har:c.ar=[a,h])(hf:c.t.c.fr.length<1000000000)(hk:(kH c s o).Kb K):Z1 284 [jG o,.p 0 0] (Fh c s) K:=by
 obtain⟨im,now,t,tr,op,ar,ma⟩:=c;subst har;have h1:=w9 (K:=λout hh=>out=.ret (.d (.int .i64 (gU im o.fu)))/\hh=fE ⟨im,now,t,tr,op,[a,h],ma⟩ s) ⟨im,now,t,tr,op,[a,h],ma⟩ s o.fu ⟨rfl,rfl⟩;have h2:=mS t.c o.fu (gU im o.fu) [a] o.ma hf (show 1<_ by decide);unfold kH at hk;unfold lI at h2;cases hy:dW t.c with
 |true=>
  rw[hy]at h2
  replace hk:K (.ret (.tu [])) (Fh ⟨im,now,{t with c:=gK t.c o.fu (gU im o.fu) [a] o.ma},tr,op,[a,h],ma⟩ s):=by
   dsimp only at hk;rw[hy]at hk;exact hk
  refine sh0 Tryz.f284 ?_
  repeat' ((conv=>whnf);first|exact zf|refine(da _ _ [30000000] ?_ rfl)|refine zm ?_|refine⟨rfl,_,h1,?_⟩|refine⟨_,h1,?_⟩|refine zc h2 ?_|refine zB ?_ ?_|refine zt ?_|refine zu ?_|intro _)
  exact hk
 |false=>
  rw[hy]at h2
  replace hk:K (.eU (pj (-6))) (Fh ⟨im,now,t,tr,op,[a,h],ma⟩ s):=by
   dsimp only at hk;rw[hy]at hk;exact hk
  refine sh0 Tryz.f284 ?_
  repeat' ((conv=>whnf);first|exact zf|refine(da _ _ [30000000] ?_ rfl)|refine zm ?_|refine⟨rfl,_,h1,?_⟩|refine⟨_,h1,?_⟩|refine zc h2 ?_|refine(jr _ ?_)|refine zB ?_ ?_|refine zt ?_|refine zu ?_|intro _)
  exact hk
theorem HZ{K:KT}(c:Ca)(s:br)(h a:Va)(har:c.ar=[a,h])(hf:c.t.c.fr.length<1000000000)(hl:c.t.c.st.length<1000000000)(hs:jl c.t.g)(hlh:cC (bF h))(hj:cC (dS c.t.g.cur (bF h)))(hqa:yt s h.nm)(hk:(gz c s h kH).Kt K):Z1 264 [.p 0 0,jh h,.fc 284 [.p 4 0]] (Dv c s) K:=by
 unfold gz at hk
 by_cases he:dY c.t.g (bF h)=0
 .have h1:=λ{K:KT}=>nR (K:=K) c s (bF h) hs hlh hj he;have h2:=λ{K:KT}=>ju (K:=K) {c with t:={c.t with g:=cj c.t.g (bF h)}} s h hqa;rw[he]at hk;unfold l_ at h2;cases ht:dD s h with
  |none=>
   rw[ht]at h2 hk
   replace hk:K (.ret (.tu [])) (Dv {c with t:={c.t with g:=cj c.t.g (bF h),c:=jb c.t.c (num 0)}} s):=hk
   have h3:=λ{K:KT}=>kj (K:=K) {c with t:={c.t with g:=cj c.t.g (bF h)}} s (num 0) hl;refine sh0 Tryz.f264 ?_
   repeat' ((conv=>whnf);first|exact zf|refine zm ?_|refine zr0 ?_|refine(h1 ?_)|refine(h2 ?_)|refine(h3 ?_)|refine zB ?_ ?_|intro _)
   exact hk
  |some p=>
   obtain⟨i,o⟩:=p;rw[ht]at h2 hk
   replace hk:(kH {c with t:={c.t with g:=cj c.t.g (bF h)}} s o).Kt K:=hk
   have h3:=λ{K:KT}=>Jy (K:=K) {c with t:={c.t with g:=cj c.t.g (bF h)}} s o a h har hf;generalize hR:kH {c with t:={c.t with g:=cj c.t.g (bF h)}} s o=R at h3 hk;cases R with
   |ok c' s'=>
    have h4:=λ{K:KT}(g:K (.ret (.tu [])) (Fh c' s'))=>h3 (K:=K) g;refine sh0 Tryz.f264 ?_
    repeat' ((conv=>whnf);first|exact zf|refine zm ?_|refine zr0 ?_|refine(h1 ?_)|refine(h2 ?_)|refine(h4 ?_)|refine zB ?_ ?_|intro _)
    exact hk
   |ex n c' s'=>
    have h4:=λ{K:KT}(g:K (.eU (pj n)) (Fh c' s'))=>h3 (K:=K) g;refine sh0 Tryz.f264 ?_
    repeat' ((conv=>whnf);first|exact zf|refine zm ?_|refine zr0 ?_|refine(h1 ?_)|refine(h2 ?_)|refine(h4 ?_)|refine zB ?_ ?_|intro _)
    exact hk
 .have hb:(dY c.t.g (bF h)==0)=false:=by simp[he]
  rw[hb]at hk;have h1:=λ{K:KT}=>nS (K:=K) c s (bF h) hs hlh hj he;refine sh0 Tryz.f264 ?_
  repeat' ((conv=>whnf);first|exact zf|refine zm ?_|refine zr0 ?_|refine(h1 ?_)|refine zB ?_ ?_|intro _)
  exact hk
def su(c:Ca)(s:br):OR:=bif cH [0,7] c.ar then(gz c s (c.ar[1]?.getD ck) kH).or else .ex (-1) c s
theorem Jz{K:KT}(c:Ca)(s:br)(a h:Va)(har:c.ar=[a,h])(hf:c.t.c.fr.length<1000000000)(hl:c.t.c.st.length<1000000000)(hs:jl c.t.g)(hlh:cC (bF h))(hj:cC (dS c.t.g.cur (bF h)))(hqa:yt s h.nm)(hk:(su c s).K K):Z1 217 [.p 0 0] (fE c s) K:=by
 obtain⟨im,now,t,tr,o,ar,ma⟩:=c;subst har;have h2:=λ{K:KT}=>HZ (K:=K) ⟨im,now,t,tr,o,[a,h],ma⟩ s h a rfl hf hl hs hlh hj hqa;unfold su at hk;cases hb:cH [0,7] [a,h] with
 |true=>
  have h1:=λ{K:KT}=>dp (K:=K) ⟨im,now,t,tr,o,[a,h],ma⟩ s [0,7] (aL _) hb;dsimp only at hk;rw[hb,δ]at hk
  replace hk:(gz ⟨im,now,t,tr,o,[a,h],ma⟩ s h kH).or.K K:=hk
  generalize hR:gz ⟨im,now,t,tr,o,[a,h],ma⟩ s h kH=R at h2 hk;cases R with
  |ok c' s'=>
   have h3:=λ{K:KT}(g:K (.ret (.tu [])) (Dv c' s'))=>h2 (K:=K) g;refine sh0 Tryz.f217 ?_
   repeat' ((conv=>whnf);first|exact zf|refine zm ?_|refine zr0 ?_|refine(h1 ?_)|refine(h3 ?_)|refine⟨_,⟨by omega,rfl,rfl⟩,?_⟩|refine zB ?_ ?_|intro _)
   exact hk none
  |ex n c' s'=>
   have h3:=λ{K:KT}(g:K (.eU (pj n)) (Dv c' s'))=>h2 (K:=K) g;refine sh0 Tryz.f217 ?_
   repeat' ((conv=>whnf);first|exact zf|refine zm ?_|refine zr0 ?_|refine(h1 ?_)|refine(h3 ?_)|refine⟨_,⟨by omega,rfl,rfl⟩,?_⟩|refine zB ?_ ?_|intro _)
   exact hk
 |false=>
  have h1:=λ{K:KT}=>dq (K:=K) ⟨im,now,t,tr,o,[a,h],ma⟩ s [0,7] (aL _) hb;dsimp only at hk;rw[hb,ε]at hk;refine sh0 Tryz.f217 ?_
  repeat' ((conv=>whnf);first|exact zf|refine zm ?_|refine zr0 ?_|refine(h1 ?_)|refine zB ?_ ?_|intro _)
  exact hk
def nJ(id:List UInt8)(l:List Va):Fx:=bif id == []then .no else .Ab ⟨id,l⟩
theorem C5{K:KT}(c:Ca)(s:br)(id:List UInt8)(l:List Va)(hk:K (.ret (.tu [])) (Nc c (nJ id l) false s)):Z1 273 [.p 0 0,.d (.str id),.d (.sl 5 (l.map b9))] (fE c s) K:=by
 unfold nJ at hk;cases he:id == [] with
 |true=>
  rw[he]at hk;have e:id=[]:=by simpa using he
  subst e;refine sh0 Tryz.f273 ?_
  repeat' ((conv=>whnf);first|exact zf|refine zm ?_|refine zB ?_ ?_|refine zt ?_|refine zu ?_|intro _)
  exact hk
 |false=>
  rw[he,ε]at hk;have e:¬id=[]:=by simpa using he
  have e2:(id != [])=true:=by simp[bne,he]
  refine sh0 Tryz.f273 ?_
  repeat' ((conv=>whnf);first|exact zf|refine(iP ?_)|refine zm ?_|refine(bf e2 ?_)|refine zB ?_ ?_|refine zt ?_|refine zu ?_|intro _)
  exact hk
structure U2(c:Ca)(l:Lb):Prop where
  n:RL c.t
  g:jl c.t.g
  l:cC l
  f:c.t.c.fr.length<1000000000
  sc:c.t.sc.length<1000000000
  w:0<=c.now/\c.now<1000000000
def mC(c:Ca)(a:Va)(l:Lb)(tk ro:Int):Th:=bif cr c.t l tk ro==0 then CD c.t c.o.a (gU c.im c.o.a) a c.ma l tk ro c.now (b8 (qE c.t))else c.t
theorem Jw(c:Ca)(a:Va)(l:Lb)(tk ro:Int)(h:U2 c l) :
  Z0 280 [eW c.t,.d (.int .i64 c.o.a),.d (.int .i64 (gU c.im c.o.a)),jh a,.d (.int .u8 c.ma),lO l,.d (.int .i64 tk),.d (.int .i64 ro),.d (.int .i64 c.now)] (.tu [eW (mC c a l tk ro),.d (.int .i64 (cr c.t l tk ro))]):=by
 have hm:c.t.ma=(c.t.ma.toNat:Nat):=by have:=h.n.m0;omega
 have hm1:c.t.ma.toNat<100:=by have:=h.n.m1;omega
 have no:∀{t:Th},iQ c.t c.o.a (gU c.im c.o.a) a c.ma l tk ro c.now->cr c.t l tk ro≠0->Z0 280 [eW c.t,.d (.int .i64 c.o.a),.d (.int .i64 (gU c.im c.o.a)),jh a,.d (.int .u8 c.ma),lO l,.d (.int .i64 tk),.d (.int .i64 ro),.d (.int .i64 c.now)] (.tu [eW (mC c a l tk ro),.d (.int .i64 (cr c.t l tk ro))]):=λh1 h2=>by
  have e:mC c a l tk ro=c.t:=by
   unfold mC;rw[show(cr c.t l tk ro==0)=false by simp[h2]];rfl
  rw[e];exact h1
 by_cases h0:tk<1\/1000<tk
 .exact no (t:=c.t) (AB _ _ _ _ _ _ _ _ _ h0) (by unfold cr;rw[ζ h0];decide)
 by_cases h1:ro<0\/999<ro
 .exact no (t:=c.t) (CC _ _ _ _ _ _ _ _ _ h0 h1) (by unfold cr;rw[η h0,ζ h1];decide)
 by_cases h2:b5 c.t.g l=0
 .by_cases h3:c.t.ro<=ro
  .exact no (t:=c.t) (AD _ _ _ _ _ _ _ _ _ h.g h.l h0 h1 h2 h3 _ _ h.n.pa hm h.n.ne h.n.le h.n.sm hm1) (by unfold cr;rw[η h0,η h1,η (by simp[h2]),ζ h3];decide)
  .cases h4:dW c.t.c with
   |false=>exact no (t:=c.t) (AE _ _ _ _ _ _ _ _ _ h.g h.l h0 h1 h2 h3 h.n.r2 _ _ h.n.pa hm h.n.ne h.n.le h.n.sm hm1 h.f h4) (by unfold cr;rw[η h0,η h1,η (by simp[h2]),η h3,ζ h4];decide)
   |true=>
    have e:cr c.t l tk ro=0:=by unfold cr;rw[η h0,η h1,η (by simp[h2]),η h3,η (by simp[h4])]
    have hr:=ue c.t c.o.a (gU c.im c.o.a) a c.ma l tk ro c.now h.g h.l h0 h1 h2 h3 h.n.r2 _ _ h.n.pa hm h.n.ne h.n.le h.n.sm hm1 h.f h.sc h.w h4;unfold mC;rw[e];exact hr
 .exact no (t:=c.t) (AA _ _ _ _ _ _ _ _ _ h.g h.l h0 h1 h2) (by unfold cr;rw[η h0,η h1,ζ h2];exact h2)
def xA(c:Ca)(s:br):OR:=bif cH [0,1,1,2] c.ar then
  (bif cr c.t (bF (c.ar[3]?.getD ck)) (c.ar[2]?.getD ck).n (c.ar[1]?.getD ck).n == 0 then .ok .no fun _ => ({ c with t := mC c (c.ar[0]?.getD ck) (bF (c.ar[3]?.getD ck)) (c.ar[2]?.getD ck).n (c.ar[1]?.getD ck).n }, s)
   else .ex (cr c.t (bF (c.ar[3]?.getD ck)) (c.ar[2]?.getD ck).n (c.ar[1]?.getD ck).n) c s)else .ex (-1) c s
theorem G_{K:KT}(c:Ca)(s:br)(a r k m:Va)(har:c.ar=[a,r,k,m])(h:U2 c (bF m))(hk:(xA c s).K K):Z1 212 [.p 0 0] (fE c s) K:=by
 have h2:=Jw c a (bF m) k.n r.n h;obtain⟨im,now,t,tr,o,ar,ma⟩:=c;subst har;have h4:=w9 (K:=λout hh=>out=.ret (.d (.int .i64 (gU im o.a)))/\hh=fE ⟨im,now,t,tr,o,[a,r,k,m],ma⟩ s) ⟨im,now,t,tr,o,[a,r,k,m],ma⟩ s o.a ⟨rfl,rfl⟩;unfold xA at hk;cases hb:cH [0,1,1,2] [a,r,k,m] with
 |true=>
  have h1:=λ{K:KT}=>dp (K:=K) ⟨im,now,t,tr,o,[a,r,k,m],ma⟩ s [0,1,1,2] (aL _) hb;dsimp only at hk;rw[hb,δ]at hk
  replace hk:OR.K (bif cr t (bF m) k.n r.n==0 then .ok .no λ_=>(⟨im,now,mC ⟨im,now,t,tr,o,[a,r,k,m],ma⟩ a (bF m) k.n r.n,tr,o,[a,r,k,m],ma⟩,s)else .ex (cr t (bF m) k.n r.n) ⟨im,now,t,tr,o,[a,r,k,m],ma⟩ s) K:=hk
  generalize mC ⟨im,now,t,tr,o,[a,r,k,m],ma⟩ a (bF m) k.n r.n=u at h2 hk
  by_cases hw:cr t (bF m) k.n r.n=0
  .rw[show(cr t (bF m) k.n r.n==0)=true by simp[hw],δ]at hk;rw[show cr (Ca.t ⟨im,now,t,tr,o,[a,r,k,m],ma⟩) (bF m) k.n r.n=0 from hw]at h2;refine sh0 Tryz.f212 ?_
   repeat' ((conv=>whnf);first|exact zf|refine zm ?_|refine zr0 ?_|refine(h1 ?_)|refine⟨rfl,_,h4,?_⟩|refine⟨_,h4,?_⟩|refine zc h2 ?_|refine(jA ?_)|refine⟨_,⟨by omega,rfl,rfl⟩,?_⟩|refine zB ?_ ?_|intro _)
   exact hk none
  .rw[show(cr t (bF m) k.n r.n==0)=false by simp[hw],ε]at hk;refine sh0 Tryz.f212 ?_
   repeat' ((conv=>whnf);first|exact zf|refine zm ?_|refine zr0 ?_|refine(h1 ?_)|refine⟨rfl,_,h4,?_⟩|refine⟨_,h4,?_⟩|refine zc h2 ?_|refine(lG _ hw ?_)|refine⟨_,⟨by omega,rfl,rfl⟩,?_⟩|refine zB ?_ ?_|intro _)
   exact hk
 |false=>
  have h1:=λ{K:KT}=>dq (K:=K) ⟨im,now,t,tr,o,[a,r,k,m],ma⟩ s [0,1,1,2] (aL _) hb;dsimp only at hk;rw[hb,ε]at hk;refine sh0 Tryz.f212 ?_
  repeat' ((conv=>whnf);first|exact zf|refine zm ?_|refine zr0 ?_|refine(h1 ?_)|refine zB ?_ ?_|intro _)
  exact hk
theorem H8{K:KT}(c:Ca)(s:br)(v:Va)(e:Fx)(hl:c.t.c.st.length<1000000000)(hk:K (.ret (.tu [])) (Nc (mE c v) e false s)):Z1 267 [.p 0 0,jh v] (Nc c e false s) K:=by
 have h1:=tg c.t.c v hl;cases e
 all_goals
  refine sh0 Tryz.f267 ?_
  repeat' ((conv=>whnf);first|exact zf|refine zm ?_|refine zc h1 ?_|refine zB ?_ ?_|intro _)
  exact hk
theorem EH{K:KT}(c:Ca)(s:br)(kp:List Nat)(o:Ob)(e:Fx)(h:Xz s kp o)(hst:c.t.c.st.length<1000000000)(hk:∀b,K (.ret (.tu [])) (Nc (CV c (b8 kp) o) e false (lr s kp o b))) :
  Z1 278 [.p 0 0,.d (.str (b8 kp)),jG o] (Nc c e false s) K:=by
 have h1:=λ{K:KT}=>mX (K:=K) s kp o h;have h2:=λ{K:KT}(b:Option Nat)=>H8 (K:=K) c (lr s kp o b) ⟨o.k,0,b8 kp,o.l.s,o.l.i⟩ e hst;cases e
 all_goals
  refine sh0 Tryz.f278 ?_
  repeat' ((conv=>whnf);first|exact zf|refine zm ?_|refine zr0 ?_|refine(h1 (λb n=>?_))|refine(h2 _ ?_)|refine zB ?_ ?_|intro _)
  exact hk _
structure Ed(c:Ca)(s:br)(o:Ob):Prop where
  n:RL c.t
  g:jl c.t.g
  l:cC o.l
  gs:mj s
  k3:3<=o.k
  k7:o.k<=7
  q:o.va.q.length<100000000
  st:c.t.c.st.length<1000000000
def jd(c:Ca)(s:br)(o:Ob):OR:=
 bif b5 c.t.g o.l==0 then(bif decide (c.t.ro<1)then .ex (-5) c s else .ok .no λb=>(CV {c with t:=nj c.t} (b8 (qE c.t)) o,lr s (qE c.t) o b))else .ex (b5 c.t.g o.l) c s
theorem qT{K:KT}(c:Ca)(s:br)(o:Ob)(h:Ed c s o)(hk:(jd c s o).K K):Z1 263 [.p 0 0,jG o] (fE c s) K:=by
 unfold jd at hk;have h1:=gr c.t.g o.l h.g h.l
 by_cases hw:b5 c.t.g o.l=0
 .rw[hw]at hk h1
  by_cases hr:c.t.ro<1
  .rw[φ hr]at hk
   replace hk:K (.eU (pj (-5))) (fE c s):=hk
   have h2:=λ{K:KT}=>M5 (K:=K) c s hr;refine sh0 Tryz.f263 ?_
   repeat' ((conv=>whnf);first|exact zf|refine zm ?_|refine zc h1 ?_|refine zB ?_ ?_|intro _)
   conv=>whnf
   refine jA ?_
   repeat' ((conv=>whnf);first|exact zf|refine(a8 (Dn ?_))|refine zm ?_|refine zr0 ?_|refine(h2 ?_)|refine zB ?_ ?_|refine And.intro ?_ ?_|intro _)
   all_goals exact hk
  .rw[τ hr]at hk
   replace hk:∀b,K (.ret (.tu [])) (fE (CV {c with t:=nj c.t} (b8 (qE c.t)) o) (lr s (qE c.t) o b)):=hk
   have hm:c.t.ma=(c.t.ma.toNat:Nat):=by have:=h.n.m0;omega
   have h2:=λ{K:KT}=>DF (K:=K) c s (gk c.t.pa 0) c.t.ma.toNat h.n.pa hm h.n.ne h.n.le h.n.sm (by have:=h.n.m1;omega) (by omega) h.n.r2;have h4:=λ{K:KT}=>EH (K:=K) {c with t:=nj c.t} s (qE c.t) o .no ⟨h.n.oG,h.gs,h.l,h.k3,h.k7,h.q⟩ h.st;refine sh0 Tryz.f263 ?_
   repeat' ((conv=>whnf);first|exact zf|refine zm ?_|refine zc h1 ?_|refine zB ?_ ?_|intro _)
   conv=>whnf
   refine jA ?_
   repeat' ((conv=>whnf);first|exact zf|refine(a8 (a8 ?_))|refine zm ?_|refine zr0 ?_|refine(h2 ?_)|refine(h4 (λb=>?_))|refine zB ?_ ?_|refine And.intro ?_ ?_|intro _)
   all_goals exact hk _
 .have hb:(b5 c.t.g o.l==0)=false:=by simp[hw]
  rw[hb]at hk
  replace hk:K (.eU (pj (b5 c.t.g o.l))) (fE c s):=hk
  refine sh0 Tryz.f263 ?_
  repeat' ((conv=>whnf);first|exact zf|refine zm ?_|refine zc h1 ?_|refine(lG _ hw ?_)|refine zB ?_ ?_|intro _)
  exact hk
def zx(c:Ca)(a:Va)(l:Lb)(ro:Int):Th:=DD (b8 (qE c.t)) ⟨c.t.g.cur,gV l⟩ (gK c00 c.o.a (gU c.im c.o.a) [a] c.ma) ro
def zy(c:Ca)(ro:Int):Ca:={c with t:={nj c.t with ro:=c.t.ro-1-ro}}
def kF(c:Ca)(l:Lb)(ro:Int):Int:=bif b5 c.t.g l==0 then(bif decide (ro<0)||(decide (999<ro)||decide (c.t.ro<=ro))then -5 else 0)else b5 c.t.g l
def D6(c:Ca)(s:br):OR:=bif cH [0,1,2] c.ar then
  (bif kF c (bF (c.ar[2]?.getD ck)) (c.ar[1]?.getD ck).n == 0 then .ok (.fork (zx c (c.ar[0]?.getD ck) (bF (c.ar[2]?.getD ck)) (c.ar[1]?.getD ck).n)) fun b => (CV (zy c (c.ar[1]?.getD ck).n) (b8 (qE c.t)) { fo with k := 6, l := bF (c.ar[2]?.getD ck) }, lr s (qE c.t) { fo with k := 6, l := bF (c.ar[2]?.getD ck) } b)
   else .ex (kF c (bF (c.ar[2]?.getD ck)) (c.ar[1]?.getD ck).n) c s)else .ex (-1) c s
structure Wr(c:Ca)(s:br)(l:Lb):Prop where
  n:RL c.t
  g:jl c.t.g
  l:cC l
  gs:mj s
  st:c.t.c.st.length<1000000000
theorem NG{K:KT}(c:Ca)(s:br)(a r m:Va)(har:c.ar=[a,r,m])(h:Wr c s (bF m))(hk:(D6 c s).K K):Z1 210 [.p 0 0] (fE c s) K:=by
  obtain⟨im,now,t,tr,o,ar,ma⟩:=c
  subst har
  have hw:=gr t.g (bF m) h.g h.l
  unfold D6 at hk
  cases hb:cH [0,1,2] [a,r,m] with
  |true=>
    have h1:=λ{K:KT}=>dp (K:=K) ⟨im,now,t,tr,o,[a,r,m],ma⟩ s [0,1,2] (aL _) hb
    dsimp only at hk
    rw[hb,δ]at hk
    by_cases h0:b5 t.g (bF m)=0
    · rw [h0] at hw
      have e0:(b5 t.g (bF m)==0)=true:=by simp[h0]
      by_cases hr:r.n<0\/999<r.n\/t.ro<=r.n
      · have e1:kF ⟨im,now,t,tr,o,[a,r,m],ma⟩ (bF m) r.n = -5:=by
          unfold kF
          dsimp only
          rw[e0,δ]
          have:(decide (r.n<0)||(decide (999<r.n)||decide (t.ro<=r.n)))=true:=by simpa using hr
          rw[this,δ]
        replace hk:OR.K (bif kF ⟨im,now,t,tr,o,[a,r,m],ma⟩ (bF m) r.n==0 then .ok (.fork (zx ⟨im,now,t,tr,o,[a,r,m],ma⟩ a (bF m) r.n)) λb=>(CV (zy ⟨im,now,t,tr,o,[a,r,m],ma⟩ r.n) (b8 (qE t)) {fo with k:=6,l:=bF m},lr s (qE t) {fo with k:=6,l:=bF m} b)else .ex (kF ⟨im,now,t,tr,o,[a,r,m],ma⟩ (bF m) r.n) ⟨im,now,t,tr,o,[a,r,m],ma⟩ s) K:=hk
        rw[e1]at hk
        replace hk:K (.eU (pj (-5))) (fE ⟨im,now,t,tr,o,[a,r,m],ma⟩ s):=hk
        have hr':r.n<0\/(¬r.n<0/\999<r.n)\/(¬r.n<0/\¬999<r.n/\t.ro<=r.n):=by omega
        clear hr
        rcases hr' with hr|hr|hr
        all_goals
          refine sh0 Tryz.f210 ?_
          repeat' ((conv=>whnf);first|exact zf|refine zm ?_|refine zr0 ?_|refine(h1 ?_)|refine⟨_,⟨by omega,rfl,rfl⟩,?_⟩|refine zc hw ?_|refine(jA ?_)|refine(jr _ ?_)|refine zB ?_ ?_|refine zt ?_|refine zu ?_|intro _)
          all_goals exact hk
      · have hr0:¬r.n<0/\¬999<r.n/\¬t.ro<=r.n:=by omega
        clear hr
        have e1:kF ⟨im,now,t,tr,o,[a,r,m],ma⟩ (bF m) r.n=0:=by
          unfold kF
          dsimp only
          rw[e0,δ]
          have:(decide (r.n<0)||(decide (999<r.n)||decide (t.ro<=r.n)))=false:=by simp;omega
          rw[this,ε]
        replace hk:OR.K (bif kF ⟨im,now,t,tr,o,[a,r,m],ma⟩ (bF m) r.n==0 then .ok (.fork (zx ⟨im,now,t,tr,o,[a,r,m],ma⟩ a (bF m) r.n)) λb=>(CV (zy ⟨im,now,t,tr,o,[a,r,m],ma⟩ r.n) (b8 (qE t)) {fo with k:=6,l:=bF m},lr s (qE t) {fo with k:=6,l:=bF m} b)else .ex (kF ⟨im,now,t,tr,o,[a,r,m],ma⟩ (bF m) r.n) ⟨im,now,t,tr,o,[a,r,m],ma⟩ s) K:=hk
        rw[e1]at hk
        have hm:t.ma=(t.ma.toNat:Nat):=by have:=h.n.m0;dsimp only at this;omega
        have hm1:t.ma.toNat<100:=by have:=h.n.m1;have:=h.n.m0;dsimp only at *;omega
        have hr2:=h.n.r2
        dsimp only at hr2
        have h2:=λ{K:KT}=>DF (K:=K) ⟨im,now,t,tr,o,[a,r,m],ma⟩ s (gk t.pa 0) t.ma.toNat h.n.pa hm h.n.ne h.n.le h.n.sm hm1 (by dsimp only;omega) hr2
        have h4:=w9 (K:=λout hh=>out=.ret (.d (.int .i64 (gU im o.a)))/\hh=fE ⟨im,now,nj t,tr,o,[a,r,m],ma⟩ s) ⟨im,now,nj t,tr,o,[a,r,m],ma⟩ s o.a ⟨rfl,rfl⟩
        have h5:Z0 54 [gp c00,.d (.int .i64 o.a),.d (.int .i64 (gU im o.a)),.d (.sl 5 ([a].map b9)),.d (.int .u8 ma)] (.tu [gp (gK c00 o.a (gU im o.a) [a] ma),.d (.bool true)]):=mS c00 o.a (gU im o.a) [a] ma (by decide) (show 1<_ by decide)
        have h6:=j_ (bF m) h.l
        have h7:=P3 (b8 (qE t)) ⟨t.g.cur,gV (bF m)⟩ (gK c00 o.a (gU im o.a) [a] ma) r.n
        have h8:=λ{K:KT}=>EH (K:=K) (zy ⟨im,now,t,tr,o,[a,r,m],ma⟩ r.n) s (qE t) {fo with k:=6,l:=bF m} (.fork (zx ⟨im,now,t,tr,o,[a,r,m],ma⟩ a (bF m) r.n)) ⟨h.n.oG,h.gs,h.l,(show(3:Int)<=6 by decide),(show(6:Int)<=7 by decide),(show(0:Nat)<_ by decide)⟩ h.st
        have hin:dB .i64 (t.ro-1-r.n):=by unfold dB;omega
        refine sh0 Tryz.f210 ?_
        repeat' ((conv=>whnf);first|exact zf|refine(iP ?_)|refine(da _ _ [30000000] ?_ rfl)|refine zm ?_|refine zr0 ?_|refine(.inl ⟨hin,?_⟩)|refine(h1 ?_)|refine⟨_,⟨by omega,rfl,rfl⟩,?_⟩|refine zc hw ?_|refine(jA ?_)|refine(h2 ?_)|refine⟨rfl,_,h4,?_⟩|refine⟨_,h4,?_⟩|refine zc h5 ?_|refine zc h6 ?_|refine zc h7 ?_|refine(h8 (λb=>?_))|refine zB ?_ ?_|refine zt ?_|refine zu ?_|intro _)
        all_goals
          conv=>whnf
          exact hk _
    · have e0:(b5 t.g (bF m)==0)=false:=by simp[h0]
      have e1:kF ⟨im,now,t,tr,o,[a,r,m],ma⟩ (bF m) r.n=b5 t.g (bF m):=by
        unfold kF
        dsimp only
        rw[e0,ε]
      replace hk:OR.K (bif kF ⟨im,now,t,tr,o,[a,r,m],ma⟩ (bF m) r.n==0 then .ok (.fork (zx ⟨im,now,t,tr,o,[a,r,m],ma⟩ a (bF m) r.n)) λb=>(CV (zy ⟨im,now,t,tr,o,[a,r,m],ma⟩ r.n) (b8 (qE t)) {fo with k:=6,l:=bF m},lr s (qE t) {fo with k:=6,l:=bF m} b)else .ex (kF ⟨im,now,t,tr,o,[a,r,m],ma⟩ (bF m) r.n) ⟨im,now,t,tr,o,[a,r,m],ma⟩ s) K:=hk
      rw[e1,e0,ε]at hk
      refine sh0 Tryz.f210 ?_
      repeat' ((conv=>whnf);first|exact zf|refine zm ?_|refine zr0 ?_|refine(h1 ?_)|refine⟨_,⟨by omega,rfl,rfl⟩,?_⟩|refine zc hw ?_|refine(lG _ h0 ?_)|refine zB ?_ ?_|refine zt ?_|refine zu ?_|intro _)
      exact hk
  |false=>
    have h1:=λ{K:KT}=>dq (K:=K) ⟨im,now,t,tr,o,[a,r,m],ma⟩ s [0,1,2] (aL _) hb
    dsimp only at hk
    rw[hb,ε]at hk
    refine sh0 Tryz.f210 ?_
    repeat' ((conv=>whnf);first|exact zf|refine zm ?_|refine zr0 ?_|refine(h1 ?_)|refine zB ?_ ?_|intro _)
    exact hk
end Go.Proofs.YtmigecldjbgneaaGreatDoor