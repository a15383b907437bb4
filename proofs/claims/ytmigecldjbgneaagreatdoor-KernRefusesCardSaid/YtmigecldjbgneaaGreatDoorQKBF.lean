/- Lemmas. Conditions: none. -/
import Derived.Test.YtmigecldjbgneaaGreatDoorQKBE
import Derived.Shelf.SlIterI.Nil
import Derived.Shelf.SortM.Plain
import Derived.Shelf.SortM.SortNone
set_option maxHeartbeats 4000000
set_option maxRecDepth 100000
namespace Go.Proofs.YtmigecldjbgneaaGreatDoor
open Go.Vx
set_option maxRecDepth 1000000
def c91:C:=.seq (.dw [iS 1 (.bx (.s 0)),iS 2 (.mv (.k (.d (.bool false))))]) (.seq (.seq (.dw [iF 3 1 0,iL 4 3]) (.block 0 (.seq (.dw [iS 6 (.bin .eql (.s 4) (.k (.d (.int .i64 1)))),iM 5 6]) (.cond (.s 5) (.seq (.dw [iD 7 1 5,iF 8 1 1,iL 9 8,iS 10 (.bd [iz,iz,sz,sz,sz] [(0,1,.k (.d (.int .i64 1))),(1,1,.s 9)]),iS 11 (.eq false true [0,0,2,2,2] (.s 7) (.s 10)),iM 2 11]) (.ret)) (.seq (.dw [iS 13 (.bin .eql (.s 4) (.k (.d (.int .i64 2)))),iM 12 13]) (.cond (.s 12) (.seq (.dw [iD 14 1 5,iF 15 1 3,iD 16 15 2,iS 17 (.bd [iz,iz,sz,sz,sz] [(0,1,.k (.d (.int .i64 2))),(3,2,.s 16)]),iS 18 (.eq false true [0,0,2,2,2] (.s 14) (.s 17)),iM 19 18,iG 20 (.fa (.s 1) 3) 19 true,iG 21 (.ld (.s 20) (some 2)) 19 true,iG 22 (.cf 29 [.s 21]) 19 true,iS 23 (.pk (.s 19) (.s 22) (.k (.d (.bool false)))),iM 2 23]) (.ret)) (.seq (.seq (.dw [iS 25 (.bin .eql (.s 4) (.k (.d (.int .i64 3)))),iM 24 25]) (.cond (.s 24) (.skip) (.seq (.dw [iS 26 (.bin .eql (.s 4) (.k (.d (.int .i64 4)))),iM 24 26]) (.cond (.s 24) (.skip) (.seq (.dw [iS 27 (.bin .eql (.s 4) (.k (.d (.int .i64 5)))),iM 24 27]) (.cond (.s 24) (.skip) (.seq (.dw [iS 28 (.bin .eql (.s 4) (.k (.d (.int .i64 6)))),iM 24 28]) (.cond (.s 24) (.skip) (.dw [iS 29 (.bin .eql (.s 4) (.k (.d (.int .i64 7)))),iM 24 29]))))))))) (.cond (.s 24) (.seq (.dw [iF 30 1 1,iL 31 30,iS 32 (.bin .eql (.s 31) (.k iz)),iM 33 32,iG 34 (.fa (.s 1) 2) 33 true,iG 35 (.ld (.s 34) none) 33 true,iG 36 (.cf 48 [.s 35]) 33 true,iS 37 (.pk (.s 33) (.s 36) (.k (.d (.bool false)))),iM 38 37,iG 39 (.fa (.s 1) 3) 38 true,iG 40 (.ld (.s 39) (some 2)) 38 true,iG 41 (.cf 29 [.s 40]) 38 true,iS 42 (.pk (.s 38) (.s 41) (.k (.d (.bool false)))),iM 2 42]) (.ret)) (.skip))))))))) (.seq (.dw [iS 2 (.mv (.k (.d (.bool false))))]) (.ret)))
noncomputable def s91:=sf (N:=91) (n:=43) (c:=c91) (r:=[.s 2]) Tryz.f91
def c95:C:=.seq (.dw [iS 7 (.bx (.s 3))]) (.seq (.dw [iM 11 0,iC 12 11,iF 13 12 5,iL 14 13,iM 15 2,iS 16 (.ml (.s 14) (.s 15) [0,3] (.ag [iz,iz]) true),iM 10 16,iS 17 (.ex (.s 10) 0),iS 18 (.ex (.s 10) 1),iS 8 (.al [iz,iz]),iN (.st (.s 8) (.s 17) 2),iM 9 18]) (.seq (.seq (.dw [iM 19 9]) (.cond (.s 19) (.seq (.dw [iD 20 8 2,iD 21 7 2,iS 22 (.eq false true [0,0] (.s 20) (.s 21)),iM 23 1,iS 24 (.cf 130 [.s 22,.s 23,.k (.d (.int .i64 8))])]) (.ret)) (.skip))) (.seq (.y_ [(iM 25 0,[]),(iC 26 25,[0]),(iF 27 26 5,[1,0]),(iL 28 27,[2,1,0]),(iM 29 2,[]),(iD 30 7 2,[])] [iN (.mu (.s 28) (.s 29) (.s 30) [0,3])]) (.dw [iM 31 0,iC 32 31,iF 33 32 6,iL 34 33,iM 35 2,iN (.mu (.s 34) (.s 35) (.k (.d (.bool true))) [0,3])]))))
noncomputable def s95:=sf (N:=95) (n:=36) (c:=c95) (r:=[]) Tryz.f95
set_option maxRecDepth 100000
theorem nz{key:List UInt8}:∀{l:List (List UInt8×Th)}{i:Nat}{t:Th},dy key l=some (i,t)->l[i]?=some (key,t)
 |[],_,_,h=>by cases h
 |p::r,i,t,h=>by
  unfold dy at h
  by_cases hk:key=p.1
  .rw[ζ hk]at h;cases h;rw[hk];rfl
  .rw[η hk]at h;cases hl:dy key r with
   |none=>rw[hl]at h;cases h
   |some x=>
    rw[hl]at h;cases h;exact nz (i:=x.1) (t:=x.2) hl
def je(l:List (List UInt8×Th)):List (List UInt8):=l.map (·.1)
theorem uG{key:List UInt8}:∀{l:List (List UInt8×Th)},key∈je l->∃i t,dy key l=some (i,t)
 |p::r,h=>by
  unfold dy
  by_cases hk:key=p.1
  .exact⟨0,p.2,ζ hk⟩
  .obtain⟨i,t,e⟩:=uG (l:=r) ((ah.1 h).elim (λh=>absurd h hk) id);exact⟨i+1,t,by rw[η hk,e];rfl⟩
theorem zh(l:List (List UInt8×Th))(t:Th):je (rG l t)=bif (dy t.id l).isSome then je l else je l++[t.id]:=by
 unfold rG;cases h:dy t.id l with
 |none=>exact bt
 |some x=>
  have:=nz (i:=x.1) (t:=x.2) h;show(l.set x.1 (t.id,t)).map (·.1)=l.map (·.1);rw[eR];refine bz λj=>?_;rw[eE];split
  .rename_i e;subst e;obtain⟨hlt,he⟩:=aC.1 this;simp[hlt,he]
  .rfl
theorem uR{key:List UInt8}{l:List (List UInt8×Th)}{i:Nat}{t:Th}(h:dy key l=some (i,t)):key∈je l:=bQ.2 ⟨(key,t),aG (nz h),rfl⟩
theorem DV{l:List (List UInt8×Th)}{t:Th}{x:List UInt8}(h:x∈je l\/x=t.id):x∈je (rG l t):=by
 rw[zh];cases hl:(dy t.id l).isSome with
 |true=>
  obtain⟨y,e⟩:=Option.isSome_iff_exists.1 hl;exact h.elim id λh=>by rw[h];exact uR (i:=y.1) (t:=y.2) e
 |false=>exact aT.2 (h.imp id λh=>by simp[h])
theorem DJ{l:List (List UInt8×Th)}{t:Th}{p:List UInt8×Th}(h:p∈rG l t):p∈l\/p=(t.id,t):=by
 unfold rG at h;split at h
 .exact iu h
 .exact(aT.1 h).imp id λh=>by simpa using h
structure KB(P:Th->Prop)(mx:Int)(N M:Nat)(k:Kn):Prop where
  pr:BR k.im
  og:∀x∈k.ord,dr x
  on:k.ord.length<=M
  tn:k.th.length<=M
  th:∀p∈k.th,P p.2/\p.2.id=p.1/\∃x,dr x/\p.1=b8 x
  al:∀x∈k.ord,b8 x∈je k.th
  so:fB mx N N k.s
  fa:k.fa.length<=N
  fs:∀f∈k.fa,cC f.l
  le:k.le.length<=N
  nw:0<=k.now/\k.now<=N
def KI(mx:Int)(N M:Nat):Kn->Prop:=KB (fS mx N) mx N M
section
variable{P Q:Th->Prop}{mx:Int}{N M:Nat}{k:Kn}
theorem fB.up{q n q' n':Nat}{s:br}(h:fB mx q n s)(hq:q<=q')(hn:n<=n'):fB mx q' n' s:=
 ⟨aX h.nm hn,λp hp=>⟨aX (h.ns p hp).1 hn,(h.ns p hp).2⟩,λp hp=>have o:=h.th p hp;⟨o.l,o.v,o.w,o.qs,aX o.ql hq,o.m⟩⟩
theorem KB.mono(h:KB P mx N M k){N' M':Nat}(hN:N<=N')(hM:M<=M')(hP:∀t,P t->Q t):KB Q mx N' M' k:=
 ⟨h.pr,h.og,aX h.on hM,aX h.tn hM,λp hp=>⟨hP _ (h.th p hp).1,(h.th p hp).2⟩,h.al,h.so.up hN hN,aX h.fa hN,h.fs,aX h.le hN,⟨h.nw.1,by have:=h.nw.2;omega⟩⟩
theorem KI.mono(h:KI mx N M k){N' M':Nat}(hN:N<=N')(hM:M<=M'):KI mx N' M' k:=KB.mono h hN hM λ_ ht=>ht.mono hN
theorem KB.look(h:KB P mx N M k){id:List UInt8}{i:Nat}{t:Th}(hl:dy id k.th=some (i,t)):P t/\t.id=id/\∃x,dr x/\id=b8 x:=h.th _ (aG (nz hl))
theorem KB.WY(h:KB P mx N M k){s:br}(hs:fB mx N N s):KB P mx N M {k with s:=s}:=⟨h.pr,h.og,h.on,h.tn,h.th,h.al,hs,h.fa,h.fs,h.le,h.nw⟩
theorem KB.put(h:KB P mx N M k){t:Th}(ht:P t)(hi:t.id∈je k.th):KB P mx N M (xL k t):=by
 obtain⟨i,u,hl⟩:=uG hi;refine⟨h.pr,h.og,h.on,?_,λp hp=>?_,λx hx=>DV (.inl (h.al x hx)),h.so,h.fa,h.fs,h.le,h.nw⟩
 .have:(je (rG k.th t)).length=(je k.th).length:=by rw[zh,hl];rfl
  unfold je at this;rw[aI,aI]at this;exact this ▸ h.tn
 .rcases DJ hp with hp|rfl
  .exact h.th p hp
  .exact⟨ht,rfl,(h.look hl).2.2⟩
theorem KB.fork(h:KB P mx N M k){t:Th}{x:List Nat}(ht:P t)(hg:dr x)(hi:t.id=b8 x):KB P mx N (M+1) (gX k x t):=by
 refine⟨h.pr,λy hy=>?_,?_,?_,λp hp=>?_,λy hy=>?_,h.so,h.fa,h.fs,h.le,h.nw⟩
 .change y∈(bif _ then _ else _)at hy
  cases hb:uv k.ord x<;>rw[hb]at hy
  .exact(oF.1 hy).elim (λe=>e ▸ hg) (h.og y)
  .exact h.og y hy
 .show(bif _ then _ else _:List (List Nat)).length<=_;have:=h.on;cases hb:uv k.ord x
  .rw[ε,q6];omega
  .rw[δ];omega
 .show(rG k.th t).length<=_;have:=h.tn;unfold rG;split
  .rw[dJ];omega
  .rw[aM];exact f_ this
 .rcases DJ hp with hp|rfl
  .exact h.th p hp
  .exact⟨ht,rfl,x,hg,hi⟩
 .change y∈(bif _ then _ else _)at hy
  refine DV ?_;cases hb:uv k.ord x<;>rw[hb]at hy
  .rcases oF.1 hy with rfl|hy
   .exact .inr hi.symm
   .exact .inl (h.al y hy)
  .exact .inl (h.al y hy)
theorem FR{q n:Nat}{s:br}(h:fB mx q n s)(on id:List UInt8):fB mx q n (jN s on id):=by
 unfold jN;cases hl:bw on s.th with
 |none=>exact h
 |some p=>
  obtain⟨i,o⟩:=p;obtain⟨p,hp,rfl⟩:=gW hl;have ho:=h.th p hp;dsimp only;cases p.2.k==5&&(j4 p.2.va id).2 with
  |false=>exact h
  |true=>
   refine h.Q4 i on ?_;unfold j4;cases decide (gJ id p.2.va.q<p.2.va.q.length) with
   |false=>exact ho
   |true=>
    refine⟨ho.l,ho.v,ho.w,λx hx=>ho.qs x (rW hx),aX ?_ ho.ql,ho.m⟩;show(lp _ _).length<=_;unfold lp;rw[aM,a_,dt];omega
theorem fS.lv{n:Nat}{t:Th}(h:fS mx n t)(hn:n<1000000000):U3 t:=
 ⟨h.g.1,dh h.sl hn,dh h.co.st hn,λs hs=>have o:=(h.sc s hs).Xv;⟨o.nm,o.g,o.l⟩⟩
theorem fB.gs{q n:Nat}{s:br}(h:fB mx q n s)(hn:n<100000000):mj s:=⟨dh h.nm (by omega),λp hp=>⟨dh (h.ns p hp).1 hn,(h.ns p hp).2⟩⟩
theorem KI.at(h:KI mx N M k)(hN:N<90000000){x:List Nat}(hx:x∈k.ord):∃i t,MX k (b8 x) i t:=by
 obtain⟨i,t,e⟩:=uG (h.al x hx);exact⟨i,t,e,(h.look e).1.lv (by omega),h.so.gs (by omega),λp hp=>dh (h.so.th p hp).ql hN⟩
theorem KI.CP(h:KI mx N M k)(h0:0<=mx)(id:List UInt8)(b:Option Nat):KI mx (N+1) M (kN k id b):=by
 unfold kN;cases hl:dy id k.th with
 |none=>exact h.mono (bM _) (aL _)
 |some p=>
  obtain⟨i,t⟩:=p;obtain⟨ht,hi,_⟩:=KB.look h hl;dsimp only;cases hs:t.sc[lj k.now t.sc]? with
  |none=>exact h.mono (bM _) (aL _)
  |some sc=>
   have h1:fB mx N N (bif t.st==1 then jN k.s t.on t.id else k.s):=by
    cases t.st==1
    .exact h.so
    .exact FR h.so _ _
   have h2:=B7 (now:=k.now) ht h1 h0 b;unfold sj at h2;rw[hs]at h2;exact KB.put (KB.WY (KB.mono h (bM _) (aL _) λ_ ht=>ht.mono (bM _)) h2.2) h2.1 (show t.id∈je k.th from hi ▸ uR hl)
theorem CO(k:Kn)(id:List UInt8)(b:Option Nat):(kN k id b).ord=k.ord:=by
 unfold kN;split
 .split<;>rfl
 .rfl
inductive Sy(l:List (List Nat)):Nat->Kn->Kn->Prop
  |z {k:Kn}:Sy l 0 k k
  |s {j:Nat} {k k':Kn} {x:List Nat} (b:Option Nat):Sy l j k k'->l[j]?=some x->Sy l (j+1) k (kN k' (b8 x) b)
theorem S3{K:KT}(h:KI mx N M k)(h0:0<=mx)(hN:N+M<80000000)(hk:∀k',Sy k.ord k.ord.length (tN k) k'->KI mx (N+1+M) M k'->k'.ord=k.ord->K (.ret (.tu [])) (fU false k')) :
  Z1 31 [.p 0 0] (fU false k) K:=by
 have hon:=h.on;have hnw:=h.nw;refine S0 (λj k'=>j<=k.ord.length/\Sy k.ord j (tN k) k'/\KI mx (N+1+j) M k'/\k'.ord=k.ord) k ⟨h.nw.1,by omega⟩ ⟨aY _,.z,?_,rfl⟩ (λj k' h=>h.2.2.2) (λj k' x hx h'=>⟨?_,λb=>⟨(aC.1 hx).1,.s b h'.2.1 hx,h'.2.2.1.CP h0 _ b,?_⟩⟩) λk' h'=>hk k' h'.2.1 (h'.2.2.1.mono (by omega) (aL _)) h'.2.2.2
 .have h1:=h.mono (bM N) (aL M);exact⟨h1.pr,h1.og,h1.on,h1.tn,h1.th,h1.al,h1.so,h1.fa,h1.fs,h1.le,⟨by show 0<=k.now+1;omega,by show k.now+1<=((N+1+0:Nat):Int);omega⟩⟩
 .have:=(aC.1 hx).1;exact h'.2.2.1.at (by omega) (h'.2.2.2 ▸ aG hx)
 .rw[CO];exact h'.2.2.2
theorem u9{n q m:Nat}{c:Ca}{s:br}{v:Va}(h:fS mx n c.t)(hs:fB mx q m s)(hv:cC (bF v))(ex:Bool):fS mx n (EZ (nB c s v ex)).t/\fB mx q m (EZ (nB c s v ex)).s/\(EZ (nB c s v ex)).t.id=c.t.id/\(EZ (nB c s v ex)).t.st≠1:=by
 obtain⟨e1,e2⟩:=Da c s v ex;unfold EZ;dsimp only;rw[e1,e2];refine⟨h.fin hv ex,hs.VA hv ex,rfl,?_⟩;show ¬(bif !c.t.sc.isEmpty then 2 else bif ex then 4 else 3:Int)=1;cases c.t.sc.isEmpty<;>cases ex<;>decide
theorem Qh{n:Nat}{t:Th}{s:br}{v:Va}(ht:fS mx n t)(hs:fB mx n n s)(hv:cC (bF v))(ex:Bool):fS mx (n+1) (mz t s v ex).t/\fB mx n n (mz t s v ex).s/\(mz t s v ex).t.id=t.id/\(mz t s v ex).t.st≠1:=by
 unfold mz;cases ex with
 |false=>exact⟨ht.TG hv,hs,rfl,(by decide:(0:Int)≠1)⟩
 |true=>
  have hw:d_ mx n (ic t []).c:=(ht.co.lay [] λx hx=>by cases hx)
  have hr:=hw.raise v.n (sQ ⟨[],[]⟩ (ic t []) 0).tr;rw[δ];unfold E5 lE;dsimp only;generalize Go.Proofs.YtmigecldjbgneaaGreatDoor.raise (ic t []).c v.n (sQ ⟨[],[]⟩ (ic t []) 0).tr=r at hr⊢;have h1:fS mx (n+1) {ic t []with c:=r.1}:=⟨hr.c,ht.g,ht.pa,ht.sc,cU ht.sl,ht.v⟩
  cases r.2.k==2 with
  |false=>exact⟨h1,hs,rfl,(by decide:(0:Int)≠1)⟩
  |true=>
   exact u9 (c:={sQ ⟨[],[]⟩ (ic t []) 0 with t:={ic t []with c:=r.1}}) h1 hs hr.v true
def II(mx:Int)(N M n:Nat)(k:Kn):Prop:=KB (λt=>fS mx (N+1) t/\(t.st=1->fS mx N t)) mx N M k/\k.th.countP (λp=>decide (p.2.st=1))<=n
theorem KI.II(h:KI mx N M k):II mx N M M k:=⟨KB.mono h (aL _) (aL _) λ_ ht=>⟨ht.mono (bM _),λ_=>ht⟩,aX List.countP_le_length h.tn⟩
theorem V9(hN:N<80000000):DI (Go.Proofs.YtmigecldjbgneaaGreatDoor.II mx N M) where
  ok:=λ{n k} h=>⟨λp hp=>by have:=(h.1.th p hp).1.1.co.fr;omega,λp hp=>by have:=(h.1.th p hp).1.1.co.st;omega,λp hp=>by have:=(h.1.so.th p hp).ql;omega⟩
  up:=λh=>⟨h.1,cU h.2⟩
  st:=λ{n k id x t o} h hw=>by
    unfold gu at hw
    cases hl:dy x k.th with
    |none=>rw[hl]at hw;cases hw
    |some p=>
      obtain⟨i,u⟩:=p
      rw[hl]at hw
      cases ho:bw id k.s.th with
      |none=>rw[ho]at hw;cases hw
      |some q=>
        obtain⟨i2,o2⟩:=q
        rw[ho]at hw
        dsimp only at hw
        cases hb:(decide (u.st=1)&&decide (u.on=id))&&(decide (o2.k=6)&&o2.dn) with
        |false=>rw[hb]at hw;cases hw
        |true=>
          rw[hb]at hw
          cases hw
          simp only[aO,χ]at hb
          obtain⟨⟨_,hf⟩,hid,_⟩:=h.1.look hl
          obtain⟨q,hq,rfl⟩:=gW ho
          have hr:=Qh (hf hb.1.1) h.1.so (h.1.so.th q hq).v q.2.ex
          have hli:=nz hl
          have hlt:=(aC.1 hli).1
          have hge:k.th[i]=(x,t):=(aC.1 hli).2
          have hc:=h.2
          have hpos:0<k.th.countP (λp=>decide (p.2.st=1)):=List.countP_pos_iff.2 ⟨(x,t),aG hli,φ hb.1.1⟩
          refine⟨n-1,by omega,KB.put (KB.WY h.1 hr.2.1) ⟨hr.1,λe=>absurd e hr.2.2.2⟩ (show _∈je k.th from hr.2.2.1.trans hid ▸ uR hl),?_⟩
          show(rG k.th (mz t k.s q.2.v q.2.ex).t).countP _<=_
          unfold rG
          rw[hr.2.2.1,hid,hl]
          show(k.th.set i _).countP _<=_
          rw[List.countP_set hlt,hge,ζ (φ hb.1.1),η (by simpa using hr.2.2.2)]
          omega
theorem II.KI{n:Nat}(h:Go.Proofs.YtmigecldjbgneaaGreatDoor.II mx N M n k):KI mx (N+1) M k:=KB.mono h.1 (bM _) (aL _) λ_ ht=>ht.1
theorem J2{x:Th}{p:List Nat}(hp:dr p)(h:x.id=b8 p):Sr x=p:=by unfold Sr;rw[h];exact tK hp.1 hp.2.2
theorem VG(h:KI mx N M k){e:Fx}(he:Hu mx N e)(id:List UInt8)(d:Bool):KI mx (N+1) (M+1) (AF k id (e.ef d)):=by
 have h1:=h.mono (bM N) (bM M);cases e with
 |no=>exact h1
 |out x=>
  refine⟨h1.pr,h1.og,h1.on,h1.tn,h1.th,h1.al,h1.so,?_,λf hf=>?_,h1.le,h1.nw⟩
  .show(k.fa++_).length<=_;rw[aM];exact f_ h.fa
  .exact(aT.1 hf).elim (h.fs f) λhf=>by rw[aF.1 hf];exact he
 |log x=>
  refine⟨h1.pr,h1.og,h1.on,h1.tn,h1.th,h1.al,h1.so,h1.fa,h1.fs,?_,h1.nw⟩;show(k.le++_).length<=_;rw[aM];exact f_ h.le
 |Ab w=>
  show KI mx (N+1) (M+1) (tI k w);unfold tI;cases hl:dy w.id k.th with
  |none=>exact h1
  |some p=>
   obtain⟨i,t⟩:=p;obtain⟨ht,hi,_⟩:=KB.look h hl;refine KB.put h1 ?_ (show t.id∈je k.th from hi ▸ uR hl);obtain⟨wi,wl⟩:=w
   match wl,he with
   |[],_=>exact ht.TF
   |[v],he=>exact ht.TG (he.2 v (.head _))
   |_::_::_,he=>exact absurd he.1 (by simp)
 |fork x=>
  obtain⟨hx,p,hp,hid⟩:=he;show KI mx (N+1) (M+1) (jf k x);unfold jf;rw[J2 hp hid];exact KB.fork (KB.mono h (bM N) (aL M) λ_ ht=>ht.mono (bM N)) (hx.mono (bM N)) hp hid
theorem XR{I:Nat->Kn->Prop}{n:Nat}(h:KI mx N M k)(hN:N<80000000)(hM:M<80000000){e:Fx}(he:Hu mx N e)(id:List UInt8)(d:Bool)(hd:d=true->I n (AF k id (e.ef d))):U4 I n k id (e.ef d):=by
 have hfa:=h.fa;have hle:=h.le;have hon:=h.on;have hf1:∀x:Ev,(rH k id x).fa.length<100000000:=λx=>by show(k.fa++_).length<_;rw[aM];show _+1<_;omega
 have hl1:∀x:En,(x7 k id x).le.length<100000000:=λx=>by show(k.le++_).length<_;rw[aM];show _+1<_;omega
 have hfk:∀x:Th,(jf k x).fa=k.fa/\(jf k x).le=k.le:=λx=>⟨rfl,rfl⟩
 cases e with
 |no=>exact⟨λj x hx=>by simp[Fx.ef]at hx,λj=>by simp[Fx.ef];omega,λj=>by simp[Fx.ef];omega,λj x hx=>by simp[Fx.ef]at hx,hd⟩
 |out x=>exact⟨λj x hx=>by simp[Fx.ef]at hx,λj=>by cases j<;>simp[Fx.ef,hf1];omega,λj=>by simp[Fx.ef,rH];omega,λj x hx=>by simp[Fx.ef]at hx,hd⟩
 |log x=>exact⟨λj x hx=>by simp[Fx.ef]at hx,λj=>by simp[Fx.ef];omega,λj=>by cases j<;>simp[Fx.ef,hl1];omega,λj x hx=>by simp[Fx.ef]at hx,hd⟩
 |Ab w=>
  refine⟨λj x hx=>by simp[Fx.ef]at hx,λj=>by simp[Fx.ef];omega,λj=>by simp[Fx.ef];omega,λj x hx=>?_,hd⟩
  match j,hx with
  |0,hx=>
   cases hx;exact⟨dh he.1 (by decide),λp hp=>by have:=(h.th p hp).1.co.st;omega⟩
 |fork x=>
  refine⟨λj y hy=>?_,λj=>by simp[Fx.ef,hfk];omega,λj=>by simp[Fx.ef,hfk];omega,λj x hx=>by simp[Fx.ef]at hx,hd⟩
  match j,hy with
  |0,hy=>
   cases hy;obtain⟨hx,p,hp,hid⟩:=he;have e:=J2 hp hid;exact⟨by rw[e];exact hid,by rw[e];exact hp,h.og,by show k.ord.length<_;omega⟩
theorem W6{K:KT}(h:KI mx N M k)(h0:0<=mx)(hx:mx<=255)(hN:N<40000000)(hM:M<40000000)(id:List UInt8)(hk:∀b,KI mx (N+4) (M+1) (PL (M+1) k id b)->K (.ret (.d (.bool (runs k id)))) (fU false (PL (M+1) k id b))) :
  Z1 32 [.p 0 0,.d (.str id)] (fU false k) K:=by
 have hnw:=h.nw;have key:∀i t,dy id k.th=some (i,t)->∀b,vE k.now mx N N t k.s b (xw k.im t k.s k.now b)->KI mx (N+2) M (KD k (xw k.im t k.s k.now b))/\Hu mx (N+2) (xw k.im t k.s k.now b).e:=λi t hl b T=>by
  obtain⟨ht,hi,_⟩:=KB.look h hl;have h1:=T.keep ht h.so h0;have h2:=T.ef ht;refine⟨KB.put (KB.WY (KI.mono h (by omega:N<=N+2) (aL M)) (h1.2.up (by omega) (by omega))) h1.1 (show _∈je k.th from(h2.2.trans hi) ▸ uR hl),?_⟩;have h3:=h2.1;generalize(xw k.im t k.s k.now b).e=e at h3;cases e with
  |fork x=>exact⟨h3.1.mono (by omega),h3.2⟩
  |no|out|log|Ab=>exact h3
 have hI:=V9 (mx:=mx) (N:=N+3) (M:=M+1) (by omega);refine runK hI (M+1) k id (λi t hl hst=>?_) λb=>hk b ?_
 .obtain⟨ht,hi,_⟩:=KB.look h hl;refine⟨ht.T h.pr h.so hx ⟨hnw.1,by omega⟩ (by omega) (by omega),λb=>?_⟩;obtain⟨k1,k2⟩:=key i t hl b (AH h.pr ht h.so h0 hx (by omega) b);exact XR k1 (by omega) (by omega) k2 id _ λ_=>(VG k1 k2 id _).II
 .unfold PL;cases hl:dy id k.th with
  |none=>exact h.mono (by omega) (bM M)
  |some p=>
   obtain⟨i,t⟩:=p;obtain⟨ht,hi,_⟩:=KB.look h hl;dsimp only;cases decide (t.st=0) with
   |false=>exact h.mono (by omega) (bM M)
   |true=>
    obtain⟨k1,k2⟩:=key i t hl b (AH h.pr ht h.so h0 hx (by omega) b);have k3:=VG k1 k2 id (xw k.im t k.s k.now b).d;rw[δ];unfold Qa;cases(Fx.ef _ _).dn with
    |false=>exact k3.mono (by omega) (aL _)
    |true=>exact(NO hI (M+1) _ id k3.II).KI
theorem Ta{K:KT}(h:KI mx N M k)(h0:0<=mx)(hx:mx<=255)(hN:N+M<30000000)(id:List UInt8)
  (hk:∀k' b,Sy k.ord k.ord.length (tN k) k'->k'.ord=k.ord->KI mx (N+M+5) (M+1) (PL (M+1) k' id b)->K (.ret (.d (.bool (runs k' id)))) (fU false (PL (M+1) k' id b))) :
  Z1 11 [.p 0 0,.d (.str id)] (fU false k) K:=by
 have h1:=λ{K:KT}=>S3 (K:=K) h h0 (by omega);refine sh0 Tryz.f11 ?_
 repeat' ((conv=>whnf);first|exact zf|refine zm ?_|refine zr0 ?_|refine(h1 (λk' hb h' ho=>?_))|refine zB ?_ ?_|intro _)
 have h2:=λ{K:KT}=>W6 (K:=K) h' h0 hx (by omega) (by omega) id
 repeat' ((conv=>whnf);first|exact zf|refine zm ?_|refine zr0 ?_|refine(h2 (λb h3=>?_))|refine zB ?_ ?_|intro _)
 exact hk _ _ hb ho (h3.mono (by omega) (aL _))
end
end Go.Proofs.YtmigecldjbgneaaGreatDoor
namespace Go.Proofs.YtmigecldjbgneaaGreatDoor
open Go.RowKit Go.Maps Go.Sort Go.Shelf Go.Proofs
def Rl:Go.Shelf.Ren:=⟨λ|7=>97|10=>133|n=>n,λ|23=>209|26=>3|3=>4|28=>217|0=>0|27=>216|33=>266|4=>4|n=>n,λ|n=>n⟩
theorem Uw:SlLaysZI.n7 Tryz.prog Rl where
 mixed:=zx0
 f7:=⟨ "maps.Keys[map[int]bool,int,bool]",by decide,Tryz.func97.trans (κ some zx0)⟩
 f10:=⟨ "maps.Keys[map[int]bool,int,bool]$1",by decide,Tryz.func133.trans (κ some zx0)⟩
 t0:=Tryz.underlying0
 a0:=Tryz.isAgg0
 z0:=Tryz.sizeOf0
 v0:=Tryz.zeroValue0
 t4:=Tryz.underlying4
 a4:=Tryz.isAgg4
 z4:=Tryz.sizeOf4
 v4:=Tryz.zeroValue4
 t23:=Tryz.underlying209
 a23:=Tryz.isAgg209
 z23:=Tryz.sizeOf209
 v23:=Tryz.zeroValue209
 t26:=Tryz.underlying3
 a26:=Tryz.isAgg3
 z26:=Tryz.sizeOf3
 v26:=Tryz.zeroValue3
 t27:=Tryz.underlying216
 a27:=Tryz.isAgg216
 z27:=Tryz.sizeOf216
 v27:=Tryz.zeroValue216
 t28:=Tryz.underlying217
 a28:=Tryz.isAgg217
 z28:=Tryz.sizeOf217
 v28:=Tryz.zeroValue217
 t33:=Tryz.underlying266
 a33:=Tryz.isAgg266
 z33:=Tryz.sizeOf266
 v33:=Tryz.zeroValue266
def yn:Go.Shelf.Ren:=⟨λ|6=>96|8=>131|9=>132|11=>161|13=>163|12=>162|23=>237|24=>238|14=>228|15=>229|16=>230|17=>231|18=>232|19=>233|20=>234|21=>235|22=>236|25=>296|26=>297|27=>298|28=>299|29=>300|30=>158|31=>328|n=>n,λ|26=>3|28=>217|24=>84|0=>0|3=>3|37=>201|48=>340|50=>243|4=>4|40=>334|39=>333|45=>139|5=>5|9=>9|51=>379|55=>383|57=>409|58=>229|33=>266|n=>n,λ|n=>n⟩
theorem Ln:SlLaysZI.n6 Tryz.prog yn where
 mixed:=zx0
 f6:=⟨ "slices.Sorted[int]",by decide,Tryz.func96.trans (κ some zx0)⟩
 f8:=⟨ "slices.Collect[int]",by decide,Tryz.func131.trans (κ some zx0)⟩
 f11:=⟨ "slices.AppendSeq[[]int,int]",by decide,Tryz.func161.trans (κ some zx0)⟩
 t0:=Tryz.underlying0
 a0:=Tryz.isAgg0
 z0:=Tryz.sizeOf0
 v0:=Tryz.zeroValue0
 t24:=Tryz.underlying84
 a24:=Tryz.isAgg84
 z24:=Tryz.sizeOf84
 v24:=Tryz.zeroValue84
 t26:=Tryz.underlying3
 a26:=Tryz.isAgg3
 z26:=Tryz.sizeOf3
 v26:=Tryz.zeroValue3
 t28:=Tryz.underlying217
 a28:=Tryz.isAgg217
 z28:=Tryz.sizeOf217
 v28:=Tryz.zeroValue217
 i26:=zx0
def QY:Go.Shelf.Ren:=⟨λ|5=>132|8=>163|7=>162|19=>237|20=>238|10=>228|11=>229|12=>230|13=>231|14=>232|15=>233|16=>234|17=>235|18=>236|30=>296|31=>297|32=>298|33=>299|34=>300|35=>158|40=>328|n=>n,λ|23=>84|25=>3|3=>3|32=>201|22=>84|0=>0|44=>340|46=>243|4=>4|36=>334|35=>333|41=>139|5=>5|9=>9|53=>379|57=>383|63=>409|64=>229|n=>n,λ|n=>n⟩
theorem PE:SlLaysM.n5 Tryz.prog QY where
 mixed:=zx0
 f5:=⟨ "slices.Sort[[]int,int]",by decide,Tryz.func132.trans (κ some zx0)⟩
 f7:=⟨ "slices.pdqsortOrdered[int]",by decide,Tryz.func162.trans (κ some zx0)⟩
 f8:=Tryz.func163.trans (κ some zx0)
 f10:=⟨ "slices.insertionSortOrdered[int]",by decide,Tryz.func228.trans (κ some zx0)⟩
 f11:=⟨ "slices.heapSortOrdered[int]",by decide,Tryz.func229.trans (κ some zx0)⟩
 f12:=⟨ "slices.breakPatternsOrdered[int]",by decide,Tryz.func230.trans (κ some zx0)⟩
 f13:=⟨ "slices.choosePivotOrdered[int]",by decide,Tryz.func231.trans (κ some zx0)⟩
 f14:=⟨ "slices.reverseRangeOrdered[int]",by decide,Tryz.func232.trans (κ some zx0)⟩
 f15:=⟨ "slices.partialInsertionSortOrdered[int]",by decide,Tryz.func233.trans (κ some zx0)⟩
 f16:=⟨ "cmp.Less[int]",by decide,Tryz.func234.trans (κ some zx0)⟩
 f17:=⟨ "slices.partitionEqualOrdered[int]",by decide,Tryz.func235.trans (κ some zx0)⟩
 f18:=⟨ "slices.partitionOrdered[int]",by decide,Tryz.func236.trans (κ some zx0)⟩
 f19:=Tryz.func237.trans (κ some zx0)
 f20:=Tryz.func238.trans (κ some zx0)
 f30:=⟨ "slices.siftDownOrdered[int]",by decide,Tryz.func296.trans (κ some zx0)⟩
 f31:=Tryz.func297.trans (κ some zx0)
 f32:=Tryz.func298.trans (κ some zx0)
 f33:=⟨ "slices.medianAdjacentOrdered[int]",by decide,Tryz.func299.trans (κ some zx0)⟩
 f34:=⟨ "slices.medianOrdered[int]",by decide,Tryz.func300.trans (κ some zx0)⟩
 f35:=⟨ "cmp.isNaN[int]",by decide,Tryz.func158.trans (κ some zx0)⟩
 f40:=⟨ "slices.order2Ordered[int]",by decide,Tryz.func328.trans (κ some zx0)⟩
 t0:=Tryz.underlying0
 a0:=Tryz.isAgg0
 z0:=Tryz.sizeOf0
 v0:=Tryz.zeroValue0
 t3:=Tryz.underlying3
 a3:=Tryz.isAgg3
 z3:=Tryz.sizeOf3
 v3:=Tryz.zeroValue3
 t4:=Tryz.underlying4
 a4:=Tryz.isAgg4
 z4:=Tryz.sizeOf4
 v4:=Tryz.zeroValue4
 t5:=Tryz.underlying5
 a5:=Tryz.isAgg5
 z5:=Tryz.sizeOf5
 v5:=Tryz.zeroValue5
 t9:=Tryz.underlying9
 a9:=Tryz.isAgg9
 z9:=Tryz.sizeOf9
 v9:=Tryz.zeroValue9
 t22:=Tryz.underlying84
 a22:=Tryz.isAgg84
 z22:=Tryz.sizeOf84
 v22:=Tryz.zeroValue84
 t23:=Tryz.underlying84
 a23:=Tryz.isAgg84
 z23:=Tryz.sizeOf84
 v23:=Tryz.zeroValue84
 t25:=Tryz.underlying3
 a25:=Tryz.isAgg3
 z25:=Tryz.sizeOf3
 v25:=Tryz.zeroValue3
 t32:=Tryz.underlying201
 a32:=Tryz.isAgg201
 z32:=Tryz.sizeOf201
 v32:=Tryz.zeroValue201
 t35:=Tryz.underlying333
 a35:=Tryz.isAgg333
 z35:=Tryz.sizeOf333
 v35:=Tryz.zeroValue333
 t36:=Tryz.underlying334
 a36:=Tryz.isAgg334
 z36:=Tryz.sizeOf334
 v36:=Tryz.zeroValue334
 t41:=Tryz.underlying139
 a41:=Tryz.isAgg139
 z41:=Tryz.sizeOf139
 v41:=Tryz.zeroValue139
 t44:=Tryz.underlying340
 a44:=Tryz.isAgg340
 z44:=Tryz.sizeOf340
 v44:=Tryz.zeroValue340
 t46:=Tryz.underlying243
 a46:=Tryz.isAgg243
 z46:=Tryz.sizeOf243
 v46:=Tryz.zeroValue243
 t53:=Tryz.underlying379
 a53:=Tryz.isAgg379
 z53:=Tryz.sizeOf379
 v53:=Tryz.zeroValue379
 t57:=Tryz.underlying383
 a57:=Tryz.isAgg383
 z57:=Tryz.sizeOf383
 v57:=Tryz.zeroValue383
 t63:=Tryz.underlying409
 a63:=Tryz.isAgg409
 z63:=Tryz.sizeOf409
 v63:=Tryz.zeroValue409
 t64:=Tryz.underlying229
 a64:=Tryz.isAgg229
 z64:=Tryz.sizeOf229
 v64:=Tryz.zeroValue229
open Go.Vx
set_option maxRecDepth 100000
def yk(l:List Int):List Int:=l.mergeSort λx y=>decide (x<=y)
def p4(l:List Int):List (List D):=l.map λn=>[.int .i64 n]
theorem QX(m:Nat):AnyZI.SortsIn Tryz.prog yn Fence.wide m:=
  ⟨fun gB off cap ss W hH hblk hsz => callsIn_wide.2 (AnyM.slices_Sort_int PE gB off cap ss W hH hblk hsz),
   λp cap W=>callsIn_wide.2 (AnyM.slices_Sort_int_none PE p cap W)⟩
theorem Rn{n:Int}(h:dB .i64 n):keyOf Tryz.prog 3 (.int .i64 n)=some (.int .i64 n):=by
 have hw:(Lit.int .i64 n).wf=true:=by
  simp only[dB]at h;simp[Lit.wf,IntKind.min,IntKind.max,IntKind.signed,IntKind.bits];omega
 simp[keyOf,Tryz.underlying3,mapKey,hw]
theorem Gl{a b:List Int}(h:a.Perm b):yk a=yk b:=mergeSort_of_perm_i h
theorem Gq {ρk:Ren} (Lk:SlLaysZI.n7 Tryz.prog ρk) {g:Nat} (hg:ρk.f 10=g) (h26:ρk.t 26=3) (hfn:g<1000000) (eg:∀args w,(callFunc g args).run Tryz.prog w = .ok (.enter g args) w) (es:List (D×Bool×List D)) (ks:List Int)
    (hks:es.map (·.1)=ks.map λn=>.int .i64 n) (hin:∀n∈ks,dB .i64 n) (hnd:ks.Nodup) (hlen:ks.length<=1000000) :
    Z1 96 [.fc g [.p 0 0]] [.cells [.mp 1],.dm es] λout h=>out=.ret (.os 2)/\h=[.cells [.mp 1],.dm es,.rows 1 (p4 (yk ks))]:=by
  refine .inl ⟨by kernel_rfl,λG w ρ vs hR hl hv=>?_⟩
  have hρ :=hR.len
  match ρ,hρ with
  |[v0,v1],_=>
  match vs,hl with
  |[a0],_=>
  obtain⟨b,arr,ty,rfl,hb,hsz,hr⟩:=hR.rep 0 v0 _ rfl rfl
  obtain⟨r,arr',clk,hv1,hb',hsz',hord,hre⟩:=hR.rep 1 v1 _ rfl rfl
  have hc:=hr 0 (.mp 1) rfl
  have hcell:w.cell? ⟨b,0,none⟩=some (.map (some r)):=by
    cases hc with
    |k hc=>
      generalize hav:arr.getD 0 undef=av at hc
      cases hc with
      |mp _ r2 h2=>
        simp only[eX,dC,aD]at h2
        rw[hv1]at h2
        cases h2
        have h0:0<arr.size:=by rw[hsz];exact Nat.one_pos
        rw[cz hb,aS h0]
        rw[aH,aS h0]at hav
        exact κ some hav
  have ha0:a0=.func (.func g) #[] #[.pointer (some ⟨b,0,none⟩)]:=by
    obtain⟨cs,hfc,hcs,hcr⟩:=(hv 0 _ rfl).Pk
    have h1:=xu hfc hfn
    have h2:=hcr 0 _ rfl
    have:cs=#[.pointer (some ⟨b,0,none⟩)]:=by
      cases cs with
      |mk l=>
        match l,hcs with
        |[x],_=>
          have h3:(#[x]:Array Value).getD 0 undef=x:=rfl
          rw[h3]at h2
          cases h2 with
          |p _ _ b2 h4=>
            simp only[dC,aD,Value.pointer.injEq,Addr.mk.injEq,ω]at h4
            rw[h4]
    rw[this]at h1
    exact h1
  subst ha0
  have hks:(fC es).map (·.1)=ks.map λn=>.d (.int .i64 n):=by
    have h1:(fC es).map (·.1)=(es.map (·.1)).map V.d:=by simp[fC]
    rw[h1,hks,gP]
    rfl
  generalize fC es=es1 at *
  have hkl:arr'.toList.map (·.key)=ks.map (Value.int .i64):=by
    apply bz
    intro i
    rw[aB,aB]
    have hlk:es1.length=ks.length:=by simpa using κ List.length hks
    cases he:arr'.toList[i]? with
    |none=>
      have:ks[i]?=none:=by
        rw[List.getElem?_eq_none_iff]at he⊢
        simp at he
        omega
      rw[this];rfl
    |some e=>
      have hi:i<es1.length:=by
        have:=(aC.1 he).1
        simp at this
        omega
      have hx:=aA hi
      have h1:=(hre i e es1[i] (by simpa using he) hx).1
      have h2:(es1.map (·.1))[i]?=some es1[i].1:=by rw[aB,hx];rfl
      rw[hks,aB]at h2
      cases hk:ks[i]? with
      |none=>rw[hk]at h2;cases h2
      |some n=>
        rw[hk]at h2
        simp only[bJ,aD]at h2
        rw[<-h2]at h1
        have h3:e.key=.int .i64 n:=az.int (.o h1)
        rw[bJ,bJ,h3]
  have hkey:∀e∈arr'.toList,∃n∈ks,e.key=.int .i64 n:=by
    intro e he
    have:e.key∈arr'.toList.map (·.key):=bQ.2 ⟨e,he,rfl⟩
    rw[hkl]at this
    obtain⟨n,hn,h⟩:=bQ.1 this
    exact⟨n,hn,h.symm⟩
  have hsz2:arr'.size=ks.length:=by
    have:=κ List.length hkl
    simpa using this
  let R:Value->Option (DataW Unit×List MemPlace):=λ_=>some (.nil,[])
  have hrd:∀e∈arr'.toList,∃n,e.key=.int .i64 n/\WideElems.rd Tryz.prog 3 R e=some (.int .i64 n,.nil):=by
    intro e he
    obtain⟨n,hn,hk⟩:=hkey e he
    refine⟨n,hk,?_⟩
    simp only[WideElems.rd,hk,Rn (hin n hn)]
    rfl
  have hown:w.ownsMap Tryz.prog 3 R r arr'.size (.map ((arr'.toList.map (WideElems.rg Tryz.prog 3 R)).foldr DataW.insert [])):=by
    refine⟨arr',clk,hb',⟨by rw[hsz2];simp only[maxLen];omega,⟨hord.1,?_,?_⟩,λx hx=>?_⟩,aL _,rfl⟩
    · exact hord.2.imp λh=>Nat.ne_of_lt h
    · rw[hkl]
      refine List.pairwise_map.2 (hnd.imp λh e=>h (by simpa using e))
    · obtain⟨n,_,h⟩:=hrd x hx
      exact⟨_,h⟩
  have hperm:(intKeys (.map ((arr'.toList.map (WideElems.rg Tryz.prog 3 R)).foldr DataW.insert []):DataW Unit)).Perm ks:=by
    have h1:(intKeys (.map ((arr'.toList.map (WideElems.rg Tryz.prog 3 R)).foldr DataW.insert []):DataW Unit)).Perm ((arr'.toList.map (WideElems.rg Tryz.prog 3 R)).map λp=>Go.intOf p.1):=(WideShapes.sorted_perm _).map _
    have h2:((arr'.toList.map (WideElems.rg Tryz.prog 3 R)).map λp=>Go.intOf p.1)=ks:=by
      have h3:((arr'.toList.map (WideElems.rg Tryz.prog 3 R)).map λp=>Go.intOf p.1)=(arr'.toList.map (·.key)).map λv=>match v with|.int _ n=>n|_=>0:=by
        rw[gP,gP]
        refine cA λe he=>?_
        obtain⟨n,h4,h5⟩:=hrd e he
        simp only[Function.comp,WideElems.rg_of h5,h4,Go.intOf]
      rw[h3,hkl,gP]
      exact(cA λn _=>rfl).trans (List.map_id' ks)
    exact h2 ▸ h1
  have hsize:Maps.size (.map ((arr'.toList.map (WideElems.rg Tryz.prog 3 R)).foldr DataW.insert []):DataW Unit)=ks.length:=by
    have:=(WideShapes.sorted_perm (arr'.toList.map (WideElems.rg Tryz.prog 3 R))).length_eq
    simp only[Maps.size,aI,cq]at this⊢
    rw[this,hsz2]
  have hblt:b<w.heap.size:=(aW.1 hb).1
  have hseq:SeqGives Fence.wide 2 Tryz.prog g #[.pointer (some ⟨b,0,none⟩)] encZ (λss=>ss.Perm (intKeys (.map ((arr'.toList.map (WideElems.rg Tryz.prog 3 R)).foldr DataW.insert []):DataW Unit))) (Maps.size (.map ((arr'.toList.map (WideElems.rg Tryz.prog 3 R)).foldr DataW.insert []):DataW Unit)) w:=by
    have:=AnyZI.keys_gives (ρ := ρk) {Lk with} Fence.wide 2 trivial rfl (by omega) b r arr'.size _ w hblt hcell (by rw[h26];exact hown)
    rw[hg]at this
    exact this
  have cS:=AnyZI.sorted_in Ln Fence.wide 5 trivial trivial trivial trivial rfl (by omega) (QX _) (enters_of Tryz.func132 zx0 rfl) g #[.pointer (some ⟨b,0,none⟩)] trivial eg _ _ (by rw[hsize];simp only[maxLen];omega) (by rw[hsize];omega) w hseq
  change CallsIn _ _ Tryz.prog 96 _ _ _ at cS
  refine(callsIn_wide.1 cS).mono ?_
  rintro e w' ⟨v,ss,rfl,hS,hrow,hnil,hbel⟩
  have hss:ss.mergeSort (λx y=>decide (x<=y))=yk ks:=Gl (hS.trans hperm)
  rw[hss]at hrow
  have hssl:ss.length=(yk ks).length:=by rw[<-hss,List.length_mergeSort]
  have hgrw:ga w w':=⟨hbel.size,hbel.block,hbel.os,hbel.tape,hbel.output⟩
  have hO:=(Ok.refl hR).push hgrw v (.rows 1 (p4 (yk ks))) (λb2 hb2=>by
    rcases hrow.2 with⟨rfl,_⟩|⟨g2,cap,cur,rfl,h1,_⟩
    · cases hb2
    · simp only[gB,aD]at hb2
      omega) (by
    rcases hrow.2 with⟨rfl,h0⟩|⟨g2,cap,cur,rfl,h1,h2,h3,h4,h5,h6⟩
    · refine .inl ⟨rfl,?_⟩
      have:yk ks=[]:=bR (by omega)
      rw[this];rfl
    · have hrl:(p4 (yk ks)).length=ss.length:=by simp[p4,hssl]
      refine .inr ⟨g2,cap,cur,_,by rw[hrl],h2,by rw[hrl];exact h3,h4,h5,λi row hi=>?_⟩
      rw[p4,aB]at hi
      cases hk:(yk ks)[i]? with
      |none=>rw[hk]at hi;cases hi
      |some n=>
        rw[hk]at hi
        cases hi
        refine⟨rfl,λj x hx=>?_⟩
        match j,hx with
        |0,hx=>
          cases hx
          have hil:i<ss.length:=by rw[hssl];exact(aC.1 hk).1
          have h7:(cur.toList.take (ss.length*1))[i]?=some (encZ n):=by rw[h6,aB,hk];rfl
          rw[bO,ζ (by omega),cJ]at h7
          have h8:cur.getD (i*1+0) undef=.int .i64 n:=by
            rw[aH,show i*1+0=i by omega,h7];rfl
          rw[h8]
          exact .int .i64 n)
  refine⟨G,_,_,.ret (.os 2),hO,⟨v,rfl,?_⟩,rfl,rfl⟩
  rcases hrow.2 with⟨rfl,_⟩|⟨g2,cap,cur,rfl,_⟩
  · exact .k (.os 2 none 0 0 rfl)
  · exact .k (.os 2 _ _ _ rfl)
end Go.Proofs.YtmigecldjbgneaaGreatDoor
namespace Go.Proofs.YtmigecldjbgneaaGreatDoor
open Go.Vx
set_option maxRecDepth 100000
def pB(a e:Int):V:=.fc 2000149 [.d (.int .i64 a),.d (.int .i64 e)]
theorem R3{K:KT}(a e:Int)(hk:K (.ret (.tu [])) []):Z1 130 [.d (.bool true),.d (.int .i64 a),.d (.int .i64 e)] [] K:=by
 refine sh0 Tryz.f130 ?_
 repeat' ((conv=>whnf);first|exact zf|refine zm ?_|refine zB ?_ ?_|intro _)
 exact hk
theorem R4{K:KT}(a e:Int)(hk:K (.eU (pB a e)) []):Z1 130 [.d (.bool false),.d (.int .i64 a),.d (.int .i64 e)] [] K:=by
 refine sh0 Tryz.f130 ?_
 repeat' ((conv=>whnf);first|exact zf|refine zm ?_|refine zB ?_ ?_|intro _)
 exact hk
theorem bh{K:KT}(b:Bool)(a e:Int)(h1:b=true->K (.ret (.tu [])) [])(h2:b=false->K (.eU (pB a e)) []):Z1 130 [.d (.bool b),.d (.int .i64 a),.d (.int .i64 e)] [] K:=by
 cases b with
 |false=>exact R4 a e (h2 rfl)
 |true=>exact R3 a e (h1 rfl)
theorem tY(n:Int):Z0 91 [jh (num n)] (.d (.bool true)):=by
 refine s91.go (keep:=false) rfl ?_
 repeat' ((conv=>whnf);first|exact zf|refine zm ?_|refine zB ?_ ?_|intro _)
 refine cD ?_;show V.d (.bool ((1==(1:Int))&&((n==n)&&(([]==([]:List UInt8))&&(([]==([]:List UInt8))&&(([]==([]:List UInt8))&&true))))))=_;simp
def tt(f:Fn):Bool:=decide (0<=f.args)&&(decide (f.args<=16)&&(decide (0<=f.vars)&&(decide (f.vars<=16)&&(decide (f.args+f.vars<=16)&&(decide (0<f.code.length)&&(decide (f.code.length<=256)&&f.code.all ep))))))
def Xq(f:Fn):V:=.ag [.d (.int .i64 f.args),.d (.int .i64 f.vars),.d (.sl 2 (f.code.map cV))]
theorem CM(f:Fn)(h:tt f=true):Z0 92 [Xq f] (.d (.int .i64 0)):=by
 simp only[tt,aO,χ,aP]at h;obtain⟨h1,h2,h3,h4,h5,h6,h7,h8⟩:=h;refine sh0 Tryz.f92 ?_
 repeat' ((conv=>whnf);first|exact zf|refine zm ?_|refine zi0 ?_|refine zB ?_ ?_|refine bf (by first|(simp;done)|(simp;omega)|(simp at *;omega)|exact beq_eq_false_iff_ne.2 (by omega)|exact beq_eq_false_iff_ne.2 (by simp only[aI];omega)|exact beq_iff_eq.2 (by simp only[aI];omega)|exact bne_iff_ne.2 (by simp only[aI];omega)) ?_|refine bB (by first|(simp;done)|(simp;omega)|(simp at *;omega)|exact beq_eq_false_iff_ne.2 (by omega)|exact beq_eq_false_iff_ne.2 (by simp only[aI];omega)|exact beq_iff_eq.2 (by simp only[aI];omega)|exact bne_iff_ne.2 (by simp only[aI];omega)) ?_|intro _)
 conv=>whnf
 refine bA [(38,.d (.sl 2 (f.code.map cV))),(39,.d (.int .i64 (f.code.map cV).length))] (λi:Nat=>i<=f.code.length) (λi=>[(40,.d (.int .i64 i))]) (λ_=>[]) (λi=>f.code.length-i) 0 (aY _) ?_ ?_ ?_ (λi hi=>?_)
 .exact zzz
 .exact zzz
 .exact rfl
 repeat' ((conv=>whnf);first|exact zf|refine zm ?_|refine zB ?_ ?_|intro _)
 refine aU (λhlt=>?_) (λhge=>?_)
 .have hlt:i<f.code.length:=by simpa using hlt
  obtain⟨o,ho⟩:∃o,f.code[i]?=some o:=⟨_,aA hlt⟩
  have hro:ep o=true:=h8 o (aG ho);have hri:=Cm o;rw[hro]at hri
  repeat' ((conv=>whnf);first|exact zf|refine zm ?_|refine zB ?_ ?_|intro _)
  refine⟨cV o,⟨by omega,by simp[ho],rfl⟩,?_⟩
  repeat' ((conv=>whnf);first|exact zf|refine zm ?_|refine zc hri ?_|refine zi0 ?_|refine zB ?_ ?_|intro _)
  refine⟨i+1,hlt,aN hlt (aQ i),zzz,zzz,rfl⟩
 .skip
  repeat' ((conv=>whnf);first|exact zf|refine zm ?_|refine zB ?_ ?_|intro _)
def RO(v:Va):Prop:=(v.k=1\/v.k=2)/\Z0 91 [jh v] (.d (.bool true))
structure CX(im:Im):Prop where
  c1:im.cs.length<=64
  c2:∀v∈im.cs,RO v
  f1:0<im.fs.length
  f2:im.fs.length<=16
  f3:∀f∈im.fs,tt f=true
theorem N8(im:Im)(h:CX im):Z0 56 [sC im] (.d (.int .i64 0)):=by
 obtain⟨h1,h2,h3,h4,h5⟩:=h;refine sh0 Tryz.f56 ?_
 repeat' ((conv=>whnf);first|exact zf|refine zm ?_|refine zB ?_ ?_|refine bf (by first|(simp;done)|(simp;omega)|(simp at *;omega)|exact beq_eq_false_iff_ne.2 (by omega)|exact beq_eq_false_iff_ne.2 (by simp only[aI];omega)|exact beq_iff_eq.2 (by simp only[aI];omega)|exact bne_iff_ne.2 (by simp only[aI];omega)) ?_|refine bB (by first|(simp;done)|(simp;omega)|(simp at *;omega)|exact beq_eq_false_iff_ne.2 (by omega)|exact beq_eq_false_iff_ne.2 (by simp only[aI];omega)|exact beq_iff_eq.2 (by simp only[aI];omega)|exact bne_iff_ne.2 (by simp only[aI];omega)) ?_|intro _)
 conv=>whnf
 refine bA [(1,.p 0 0),(19,.d (.sl 5 (im.cs.map b9))),(20,.d (.int .i64 (im.cs.map b9).length))] (λi:Nat=>i<=im.cs.length) (λi=>[(21,.d (.int .i64 i))]) (λ_=>[.cells [.d (.sl 5 (im.cs.map b9)),.d (.sl 3 (im.fs.map bc))]]) (λi=>im.cs.length-i) 0 (aY _) ?_ ?_ ?_ (λi hi=>?_)
 .exact zzz
 .exact zzz
 .exact rfl
 repeat' ((conv=>whnf);first|exact zf|refine zm ?_|refine zB ?_ ?_|intro _)
 refine aU (λhlt=>?_) (λhge=>?_)
 .have hlt:i<im.cs.length:=by simpa using hlt
  obtain⟨v,hv⟩:∃v,im.cs[i]?=some v:=⟨_,aA hlt⟩
  obtain⟨hk,hs⟩:=h2 v (aG hv)
  repeat' ((conv=>whnf);first|exact zf|refine zm ?_|refine zB ?_ ?_|intro _)
  refine⟨b9 v,⟨by omega,by simp[hv],rfl⟩,?_⟩;rcases hk with hk|hk
  .have e1:(v.k != 1)=false:=by simp[hk]
   repeat' ((conv=>whnf);first|exact zf|refine zm ?_|refine zc hs ?_|refine zi0 ?_|refine(bB e1 ?_)|refine zB ?_ ?_|intro _)
   refine⟨i+1,hlt,aN hlt (aQ i),zzz,zzz,rfl⟩
  .have e1:(v.k != 1)=true:=by simp[hk]
   have e2:(v.k != 2)=false:=by simp[hk]
   repeat' ((conv=>whnf);first|exact zf|refine zm ?_|refine zc hs ?_|refine zi0 ?_|refine(bf e1 ?_)|refine(bB e2 ?_)|refine zB ?_ ?_|intro _)
   refine⟨i+1,hlt,aN hlt (aQ i),zzz,zzz,rfl⟩
 .skip
  repeat' ((conv=>whnf);first|exact zf|refine zm ?_|refine zB ?_ ?_|refine bf (by first|(simp;done)|(simp;omega)|(simp at *;omega)|exact beq_eq_false_iff_ne.2 (by omega)|exact beq_eq_false_iff_ne.2 (by simp only[aI];omega)|exact beq_iff_eq.2 (by simp only[aI];omega)|exact bne_iff_ne.2 (by simp only[aI];omega)) ?_|refine bB (by first|(simp;done)|(simp;omega)|(simp at *;omega)|exact beq_eq_false_iff_ne.2 (by omega)|exact beq_eq_false_iff_ne.2 (by simp only[aI];omega)|exact beq_iff_eq.2 (by simp only[aI];omega)|exact bne_iff_ne.2 (by simp only[aI];omega)) ?_|intro _)
  conv=>whnf
  refine bA [(1,.p 0 0),(44,.d (.sl 3 (im.fs.map bc))),(45,.d (.int .i64 (im.fs.map bc).length))] (λi:Nat=>i<=im.fs.length) (λi=>[(46,.d (.int .i64 i))]) (λ_=>[.cells [.d (.sl 5 (im.cs.map b9)),.d (.sl 3 (im.fs.map bc))]]) (λi=>im.fs.length-i) 0 (aY _) ?_ ?_ ?_ (λj hj=>?_)
  .exact zzz
  .exact zzz
  .exact rfl
  repeat' ((conv=>whnf);first|exact zf|refine zm ?_|refine zB ?_ ?_|intro _)
  refine aU (λhlt=>?_) (λhge=>?_)
  .have hlt:j<im.fs.length:=by simpa using hlt
   obtain⟨f,hf⟩:∃f,im.fs[j]?=some f:=⟨_,aA hlt⟩
   have hs:=CM f (h5 f (aG hf))
   repeat' ((conv=>whnf);first|exact zf|refine zm ?_|refine zB ?_ ?_|intro _)
   refine⟨bc f,⟨by omega,by simp[hf],rfl⟩,?_⟩
   repeat' ((conv=>whnf);first|exact zf|refine zm ?_|refine zc hs ?_|refine zi0 ?_|refine zB ?_ ?_|intro _)
   refine⟨j+1,hlt,aN hlt (aQ j),zzz,zzz,rfl⟩
  .skip
   repeat' ((conv=>whnf);first|exact zf|refine zm ?_|refine zB ?_ ?_|intro _)
theorem K2:Z0 56 [sC ⟨[],[]⟩] (.d (.int .i64 6)):=by
 refine sh0 Tryz.f56 ?_
 repeat' ((conv=>whnf);first|exact zf|refine zm ?_|refine zB ?_ ?_|intro _)
 conv=>whnf
 refine bA [(1,.p 0 0),(19,.d (.sl 5 [])),(20,.d (.int .i64 0))] (λi:Nat=>i=0) (λi=>[(21,.d (.int .i64 i))]) (λ_=>[.cells [.d (.sl 5 []),.d (.sl 3 [])]]) (λi=>0) 0 rfl ?_ ?_ ?_ (λi hi=>?_)
 .exact zzz
 .exact zzz
 .exact rfl
 subst hi
 repeat' ((conv=>whnf);first|exact zf|refine zm ?_|refine zB ?_ ?_|intro _)
abbrev Sn:=List (Int×Int×Int)
def me(s:Sn):List (D×Bool×List D):=s.map λp=>(.int .i64 p.1,true,[.int .i64 p.2.1,.int .i64 p.2.2])
def fR(l:List Int):List (D×Bool×List D):=l.map λx=>(.int .i64 x,false,[.bool true])
def wB(im:Im)(fn:Fn)(s:Sn)(l:List Int):H:=[.cells [.d (.sl 5 (im.cs.map b9)),.d (.sl 3 (im.fs.map bc)),.d (.int .i64 fn.args),.d (.int .i64 fn.vars),.d (.sl 2 (fn.code.map cV)),.mp 1,.mp 2],.dm (me s),.dm (fR l)]
def tq(im:Im)(fn:Fn)(o:Op)(ar:Int):Option Int:=
 bif ar==1 then(bif decide (o.a<im.cs.length)then none else some 5)
 else bif ar==2 then(bif decide (o.a<fn.args+fn.vars)then none else some 1)
 else bif ar==3 then(bif decide (o.a<fn.code.length)then none else some 7)
 else bif ar==4 then(bif decide (o.a<im.fs.length)then(bif (o.c==38||(o.c==40||o.c==45))then(match im.fs[o.a.toNat]? with
  |some g=>bif g.args==1 then none else some 6
  |none=>some 6)else none)else some 6)
 else bif ar==5 then(bif decide (o.a<=63)then none else some 1)else none
def jc(im:Im)(fn:Fn)(o:Op):Option Int:=
 match inf o.c with
 |none=>none
 |some i=>tq im fn o i.ar
theorem vq{o:Op}(h:ep o=true):∃i,inf o.c=some i/\0<=o.a/\o.a<=65535:=by
 unfold ep at h;cases hi:inf o.c with
 |none=>rw[hi]at h;cases h
 |some i=>
  refine⟨i,rfl,?_⟩;rw[hi]at h;simp only at h;cases hz:i.ar==0 with
  |true=>rw[hz]at h;simp at h;omega
  |false=>rw[hz]at h;simp at h;omega
theorem Ea{K:KT}(im:Im)(fn:Fn)(x:Int)(o:Op)(s:Sn)(l:List Int)(h0:0<=x)(ho:fn.code[x.toNat]?=some o)(hr:ep o=true)(hf:tt fn=true)
    (hk:match jc im fn o with
      |none=>K (.ret (.tu [])) (wB im fn s l)
      |some e=>K (.eU (pB x e)) (wB im fn s l)):Z1 94 [.p 0 0,.d (.int .i64 x)] (wB im fn s l) K:=by
  obtain⟨i,hi,ha0,ha1⟩:=vq hr
  simp only[tt,aO,χ]at hf
  obtain⟨f1,f2,f3,f4,f5,f6,f7,_⟩:=hf
  obtain⟨_,_,a0,a5,_⟩:=ei hi
  have he:jc im fn o=tq im fn o i.ar:=by simp only[jc,hi]
  rw[he]at hk
  have hab:=e6 hi
  generalize ha:i.ar=ar at hk hab
  rw[ha]at a0 a5
  refine sh0 Tryz.f94 ?_
  repeat' ((conv=>whnf);first|exact zf|refine zm ?_|refine zB ?_ ?_|intro _)
  refine⟨cV o,⟨h0,by simp[ho],rfl⟩,?_⟩
  have h6:ar=0\/ar=1\/ar=2\/ar=3\/ar=4\/ar=5:=by omega
  rcases h6 with rfl|rfl|rfl|rfl|rfl|rfl
  · replace hk:K (.ret (.tu [])) (wB im fn s l):=hk
    repeat' ((conv=>whnf);first|exact zf|refine zm ?_|refine zc hab ?_|refine zB ?_ ?_|intro _)
    exact hk
  · replace hk:match(bif decide (o.a<im.cs.length)then none else some 5) with
      |none=>K (.ret (.tu [])) (wB im fn s l)
      |some e=>K (.eU (pB x e)) (wB im fn s l):=hk
    repeat' ((conv=>whnf);first|exact zf|refine zm ?_|refine zc hab ?_|refine zB ?_ ?_|intro _)
    refine bh _ _ _ (λhb=>?_) (λhb=>?_)
    · rw[show decide (o.a<(im.cs.length:Int))=true by simpa using hb]at hk
      repeat' ((conv=>whnf);first|exact zf|refine zm ?_|refine zB ?_ ?_|intro _)
      exact hk
    · rw[show decide (o.a<(im.cs.length:Int))=false by simpa using hb]at hk
      repeat' ((conv=>whnf);first|exact zf|refine zm ?_|refine zB ?_ ?_|intro _)
      exact hk
  · replace hk:match(bif decide (o.a<fn.args+fn.vars)then none else some 1) with
      |none=>K (.ret (.tu [])) (wB im fn s l)
      |some e=>K (.eU (pB x e)) (wB im fn s l):=hk
    repeat' ((conv=>whnf);first|exact zf|refine zm ?_|refine zc hab ?_|refine zi0 ?_|refine zB ?_ ?_|intro _)
    refine bh _ _ _ (λhb=>?_) (λhb=>?_)
    · rw[hb]at hk
      repeat' ((conv=>whnf);first|exact zf|refine zm ?_|refine zB ?_ ?_|intro _)
      exact hk
    · rw[hb]at hk
      repeat' ((conv=>whnf);first|exact zf|refine zm ?_|refine zB ?_ ?_|intro _)
      exact hk
  · replace hk:match(bif decide (o.a<fn.code.length)then none else some 7) with
      |none=>K (.ret (.tu [])) (wB im fn s l)
      |some e=>K (.eU (pB x e)) (wB im fn s l):=hk
    repeat' ((conv=>whnf);first|exact zf|refine zm ?_|refine zc hab ?_|refine zB ?_ ?_|intro _)
    refine bh _ _ _ (λhb=>?_) (λhb=>?_)
    · rw[show decide (o.a<(fn.code.length:Int))=true by simpa using hb]at hk
      repeat' ((conv=>whnf);first|exact zf|refine zm ?_|refine zB ?_ ?_|intro _)
      exact hk
    · rw[show decide (o.a<(fn.code.length:Int))=false by simpa using hb]at hk
      repeat' ((conv=>whnf);first|exact zf|refine zm ?_|refine zB ?_ ?_|intro _)
      exact hk
  · replace hk:match(bif decide (o.a<im.fs.length)then(bif (o.c==38||(o.c==40||o.c==45))then(match im.fs[o.a.toNat]? with
        |some g=>bif g.args==1 then none else some 6
        |none=>some 6)else none)else some 6) with
      |none=>K (.ret (.tu [])) (wB im fn s l)
      |some e=>K (.eU (pB x e)) (wB im fn s l):=hk
    repeat' ((conv=>whnf);first|exact zf|refine zm ?_|refine zc hab ?_|refine zB ?_ ?_|intro _)
    refine bh _ _ _ (λhb=>?_) (λhb=>?_)
    · rw [show decide (o.a < (im.fs.length : Int)) = true by simpa using hb] at hk
      have hlt:o.a<im.fs.length:=by simpa using hb
      obtain⟨g,hg⟩:∃g,im.fs[o.a.toNat]?=some g:=⟨_,aA (by omega)⟩
      rw[hg]at hk
      have h38:o.c=38\/o.c=40\/o.c=45\/(o.c≠38/\o.c≠40/\o.c≠45):=by omega
      rcases h38 with hc|hc|hc|⟨c1,c2,c3⟩
      · rw[hc]at hk
        replace hk:match(bif g.args==1 then none else some 6) with
          |none=>K (.ret (.tu [])) (wB im fn s l)
          |some e=>K (.eU (pB x e)) (wB im fn s l):=hk
        have e1:(o.c==38)=true:=by rw[hc];rfl
        repeat' ((conv=>whnf);first|exact zf|refine zm ?_|refine(bf e1 ?_)|refine zB ?_ ?_|intro _)
        refine⟨bc g,⟨ha0,by simp[hg],rfl⟩,?_⟩
        repeat' ((conv=>whnf);first|exact zf|refine zm ?_|refine(bf e1 ?_)|refine zB ?_ ?_|intro _)
        refine bh _ _ _ (λhb=>?_) (λhb=>?_)
        · rw[hb]at hk
          repeat' ((conv=>whnf);first|exact zf|refine zm ?_|refine zB ?_ ?_|intro _)
          exact hk
        · rw[hb]at hk
          repeat' ((conv=>whnf);first|exact zf|refine zm ?_|refine zB ?_ ?_|intro _)
          exact hk
      · rw[hc]at hk
        replace hk:match(bif g.args==1 then none else some 6) with
          |none=>K (.ret (.tu [])) (wB im fn s l)
          |some e=>K (.eU (pB x e)) (wB im fn s l):=hk
        have e1:(o.c==38)=false:=by rw[hc];rfl
        have e2:(o.c==40)=true:=by rw[hc];rfl
        repeat' ((conv=>whnf);first|exact zf|refine zm ?_|refine(bB e1 ?_)|refine(bf e2 ?_)|refine zB ?_ ?_|intro _)
        refine⟨bc g,⟨ha0,by simp[hg],rfl⟩,?_⟩
        repeat' ((conv=>whnf);first|exact zf|refine zm ?_|refine zB ?_ ?_|intro _)
        refine bh _ _ _ (λhb=>?_) (λhb=>?_)
        · rw[hb]at hk
          repeat' ((conv=>whnf);first|exact zf|refine zm ?_|refine zB ?_ ?_|intro _)
          exact hk
        · rw[hb]at hk
          repeat' ((conv=>whnf);first|exact zf|refine zm ?_|refine zB ?_ ?_|intro _)
          exact hk
      · rw[hc]at hk
        replace hk:match(bif g.args==1 then none else some 6) with
          |none=>K (.ret (.tu [])) (wB im fn s l)
          |some e=>K (.eU (pB x e)) (wB im fn s l):=hk
        have e1:(o.c==38)=false:=by rw[hc];rfl
        have e2:(o.c==40)=false:=by rw[hc];rfl
        have e3:(o.c==45)=true:=by rw[hc];rfl
        repeat' ((conv=>whnf);first|exact zf|refine zm ?_|refine(bB e1 ?_)|refine(bB e2 ?_)|refine(bf e3 ?_)|refine zB ?_ ?_|intro _)
        refine⟨bc g,⟨ha0,by simp[hg],rfl⟩,?_⟩
        repeat' ((conv=>whnf);first|exact zf|refine zm ?_|refine zB ?_ ?_|intro _)
        refine bh _ _ _ (λhb=>?_) (λhb=>?_)
        · rw[hb]at hk
          repeat' ((conv=>whnf);first|exact zf|refine zm ?_|refine zB ?_ ?_|intro _)
          exact hk
        · rw[hb]at hk
          repeat' ((conv=>whnf);first|exact zf|refine zm ?_|refine zB ?_ ?_|intro _)
          exact hk
      · have e1:(o.c==38)=false:=by simpa using c1
        have e2:(o.c==40)=false:=by simpa using c2
        have e3:(o.c==45)=false:=by simpa using c3
        rw[e1,e2,e3]at hk
        repeat' ((conv=>whnf);first|exact zf|refine zm ?_|refine(bB e1 ?_)|refine(bB e2 ?_)|refine(bB e3 ?_)|refine zB ?_ ?_|intro _)
        exact hk
    · rw[show decide (o.a<(im.fs.length:Int))=false by simpa using hb]at hk
      repeat' ((conv=>whnf);first|exact zf|refine zm ?_|refine zB ?_ ?_|intro _)
      exact hk
  · replace hk:match(bif decide (o.a<=63)then none else some 1) with
      |none=>K (.ret (.tu [])) (wB im fn s l)
      |some e=>K (.eU (pB x e)) (wB im fn s l):=hk
    repeat' ((conv=>whnf);first|exact zf|refine zm ?_|refine zc hab ?_|refine zB ?_ ?_|intro _)
    refine bh _ _ _ (λhb=>?_) (λhb=>?_)
    · rw[hb]at hk
      repeat' ((conv=>whnf);first|exact zf|refine zm ?_|refine zB ?_ ?_|intro _)
      exact hk
    · rw[hb]at hk
      repeat' ((conv=>whnf);first|exact zf|refine zm ?_|refine zB ?_ ?_|intro _)
      exact hk
def gF:Sn->Int->Nat->Option (Nat×(Int×Int))
 |[],_,_=>none
 |p::r,x,i=>bif x==p.1 then some (i,p.2)else gF r x (i+1)
def rL:List Int->Int->Nat->Option Nat
 |[],_,_=>none
 |p::r,x,i=>bif x==p then some i else rL r x (i+1)
def Xp(p:Int×Int):V:=.ag [.d (.int .i64 p.1),.d (.int .i64 p.2)]
theorem iK(x:Int):∀(s:Sn)(i:Nat),nI [0,3] [.d (.int .i64 x)] (fC (me s)) i=some ((gF s x i).map λr=>(r.1,Xp r.2))
 |[],i=>rfl
 |p::r,i=>by
  show(bif x==p.1&&true then some (some (i,Xp p.2))else nI [0,3] [.d (.int .i64 x)] (fC (me r)) (i+1))=some (Option.map _ (bif x==p.1 then some (i,p.2)else gF r x (i+1)));cases x==p.1 with
  |true=>rfl
  |false=>exact iK x r (i+1)
theorem u6(x:Int):∀(l:List Int)(i:Nat),nI [0,3] [.d (.int .i64 x)] (fC (fR l)) i=some ((rL l x i).map λj=>(j,.d (.bool true)))
 |[],i=>rfl
 |p::r,i=>by
  show(bif x==p&&true then some (some (i,V.d (.bool true)))else nI [0,3] [.d (.int .i64 x)] (fC (fR r)) (i+1))=some (Option.map _ (bif x==p then some i else rL r x (i+1)));cases x==p with
  |true=>rfl
  |false=>exact u6 x r (i+1)
def ins(l:List Int)(x:Int):List Int:=match rL l x 0 with
 |some _=>l
 |none=>l++[x]
def era(l:List Int)(x:Int):List Int:=match rL l x 0 with
 |some i=>l.eraseIdx i
 |none=>l
theorem qR{x:Int}:∀{l:List Int}{i j:Nat},rL l x i=some j->i<=j/\l[j-i]?=some x
 |[],_,_,h=>by cases h
 |p::r,i,j,h=>by
  simp only[rL]at h;cases hx:x==p with
  |true=>
   rw[hx]at h;simp only[δ,aD]at h;subst h;simp only[ξ]at hx;simp[hx]
  |false=>
   rw[hx]at h;simp only[ε]at h;obtain⟨h1,h2⟩:=qR h;refine⟨by omega,?_⟩;rw[show j-i=(j-(i+1))+1 by omega];simpa using h2
theorem Hf{l:List Int}{x:Int}{j:Nat}(h:rL l x 0=some j):(fR l).set j (.int .i64 x,false,[.bool true])=fR l:=by
 obtain⟨_,h2⟩:=qR h;rw[re]at h2;refine bz λk=>?_;rw[eE];split
 .rename_i hk;subst hk;have hlt:j<l.length:=(aC.1 h2).1;rw[ζ (by simpa[fR]using hlt)];simp[fR,h2]
 .rfl
theorem Hg(l:List Int)(x:Int):fR l++[(.int .i64 x,false,[.bool true])]=fR (l++[x]):=by simp[fR]
theorem BM(l:List Int)(j:Nat):(fR l).eraseIdx j=fR (l.eraseIdx j):=by simp[fR,rU]
theorem Gz(s:Sn)(x:Int)(p:Int×Int):me s++[(.int .i64 x,true,[.int .i64 p.1,.int .i64 p.2])]=me (s++[(x,p)]):=by simp[me]
def yR(s:Sn)(l:List Int)(x:Int)(p:Int×Int):Option (Sn×List Int):=
 match gF s x 0 with
 |some r=>bif r.2.1==p.1&&(r.2.2==p.2&&true)then some (s,l)else none
 |none=>some (s++[(x,p)],ins l x)
theorem MF{K:KT}(im:Im)(fn:Fn)(s:Sn)(l:List Int)(f x:Int)(p:Int×Int)
  (hk:match yR s l x p with
   |some q=>K (.ret (.tu [])) (wB im fn q.1 q.2)
   |none=>K (.eU (pB f 8)) (wB im fn s l)):Z1 95 [.p 0 0,.d (.int .i64 f),.d (.int .i64 x),Xp p] (wB im fn s l) K:=by
 have hs:=iK x s 0;have ho:=u6 x l 0;unfold yR at hk;cases hl:gF s x 0 with
 |some r=>
  rw[hl]at hk hs;refine s95.go (keep:=false) rfl ?_
  repeat' ((conv=>whnf);first|exact zf|refine zm ?_|refine zB ?_ ?_|intro _)
  refine⟨_,hs,?_⟩
  repeat' ((conv=>whnf);first|exact zf|refine zm ?_|refine zB ?_ ?_|intro _)
  refine bh _ _ _ (λhb=>?_) (λhb=>?_)
  .replace hb:(r.2.1==p.1&&(r.2.2==p.2&&true))=true:=hb
   simp only[hb]at hk
   replace hk:K (.ret (.tu [])) (wB im fn s l):=hk
   repeat' ((conv=>whnf);first|exact zf|refine zm ?_|refine zB ?_ ?_|intro _)
   exact hk
  .replace hb:(r.2.1==p.1&&(r.2.2==p.2&&true))=false:=hb
   simp only[hb]at hk
   replace hk:K (.eU (pB f 8)) (wB im fn s l):=hk
   repeat' ((conv=>whnf);first|exact zf|refine zm ?_|refine zB ?_ ?_|intro _)
   exact hk
 |none=>
  rw[hl]at hk hs
  replace hk:K (.ret (.tu [])) (wB im fn (s++[(x,p)]) (ins l x)):=hk
  have h1:=Gz s x p;cases hm:rL l x 0 with
  |some j=>
   rw[hm]at ho;have e:wB im fn (s++[(x,p)]) (ins l x)=[.cells [.d (.sl 5 (im.cs.map b9)),.d (.sl 3 (im.fs.map bc)),.d (.int .i64 fn.args),.d (.int .i64 fn.vars),.d (.sl 2 (fn.code.map cV)),.mp 1,.mp 2],
     .dm (me s++[(.int .i64 x,true,[.int .i64 p.1,.int .i64 p.2])]),.dm ((fR l).set j (.int .i64 x,false,[.bool true]))]:=by
    rw[h1,Hf hm];simp only[wB,ins,hm]
   rw[e]at hk;refine s95.go (keep:=false) rfl ?_
   repeat' ((conv=>whnf);first|exact zf|refine zm ?_|refine zc hs ?_|refine zc ho ?_|refine zB ?_ ?_|intro _)
   exact hk
  |none=>
   rw[hm]at ho;have e:wB im fn (s++[(x,p)]) (ins l x)=[.cells [.d (.sl 5 (im.cs.map b9)),.d (.sl 3 (im.fs.map bc)),.d (.int .i64 fn.args),.d (.int .i64 fn.vars),.d (.sl 2 (fn.code.map cV)),.mp 1,.mp 2],
     .dm (me s++[(.int .i64 x,true,[.int .i64 p.1,.int .i64 p.2])]),.dm (fR l++[(.int .i64 x,false,[.bool true])])]:=by
    rw[h1,Hg];simp only[wB,ins,hm]
   rw[e]at hk;refine s95.go (keep:=false) rfl ?_
   repeat' ((conv=>whnf);first|exact zf|refine zm ?_|refine zc hs ?_|refine zc ho ?_|refine zB ?_ ?_|intro _)
   exact hk
end Go.Proofs.YtmigecldjbgneaaGreatDoor