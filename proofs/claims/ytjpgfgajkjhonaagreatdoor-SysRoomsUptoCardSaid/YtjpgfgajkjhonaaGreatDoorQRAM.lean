/- Lemmas. Conditions: none. -/
import Derived.Test.YtjpgfgajkjhonaaGreatDoorQRAL
import Derived.RegionIn
import Derived.RangeFuncNested
namespace Go.Vx
section
variable {P:Program} {E:gL} {n:Nat} {h:H} {K:Ex→T→H→Prop} {Q:Exit→Act→World→Prop} (ow:Nat→Bool)
def agree (is:List I) (vs:List V) (L:Nat→Prop) (t tL:T):Prop:=
 ∀s,(∃(k:Nat) (i:I),L k∧is[k]? = some i∧i.d=some s∧vs[k]? = some (gs tL s))∨((∀(k:Nat) (i:I),L k→is[k]? = some i→i.d≠some s)∧gs tL s=gs t s)
def BH (rs:List R) (L:Nat→Prop) (h hL:H):Prop:=
 hL.length=h.length∧∀i,(∃(k:Nat) (r:R) (w:Nat×B),L k∧rs[k]? = some r∧w∈r.ws∧w.1=i∧hL[i]? = some w.2∧∀(k':Nat) (r':R) (w':Nat×B),L k'→k<k'→rs[k']? = some r'→w'∈r'.ws→w'.1≠i)∨((∀(k:Nat) (r:R) (w:Nat×B),L k→rs[k]? = some r→w∈r.ws→w.1≠i)∧hL[i]? = h[i]?)
theorem zp {a:H} {r:R} (hn:(r.ws.map (·.1)).Nodup) (hl:∀w∈r.ws,w.1<a.length):(wr a r).length=a.length∧(∀w∈r.ws,(wr a r)[w.1]? = some w.2)∧∀i,(∀w∈r.ws,w.1≠i)→(wr a r)[i]? = a[i]?:=SH r.ws a hn hl
theorem Eb (n:Nat):∀(rs:List R),(∀(j:Nat) (r:R),rs[j]? = some r→(r.ws.map (·.1)).Nodup∧∀w∈r.ws,w.1<n) →
  ∀a:H,a.length=n→(rs.foldl wr a).length=n∧∀i,(∃(k:Nat) (r:R) (w:Nat×B),rs[k]? = some r∧w∈r.ws∧w.1=i∧(rs.foldl wr a)[i]? = some w.2∧∀(k':Nat) (r':R) (w':Nat×B),k<k'→rs[k']? = some r'→w'∈r'.ws→w'.1≠i)∨((∀(k:Nat) (r:R) (w:Nat×B),rs[k]? = some r→w∈r.ws→w.1≠i)∧(rs.foldl wr a)[i]? = a[i]?):=by
 intro rs
 induction rs with
 |nil=>intro _ a ha;exact ⟨ha,λi=>.inr ⟨by simp,rfl⟩⟩
 |cons r rs ih=>
  intro hlt a ha;obtain ⟨n1,n2⟩:=hlt 0 r rfl;obtain ⟨w1,w2,w3⟩:=zp n1 (λw hw=>by rw [ha];exact n2 w hw);obtain ⟨g1,g2⟩:=ih (λj r hj=>hlt (j+1) r (by simpa using hj)) (wr a r) (by rw [w1,ha]);refine ⟨g1,λi=>?_⟩;rcases g2 i with ⟨k,r',w,k1,k2,k3,k4,k5⟩ | ⟨k1,k2⟩
  ·refine .inl ⟨k+1,r',w,by simpa using k1,k2,k3,k4,λk' r2 w2 hk hr hw=>?_⟩;cases k' with
   |zero=>omega
   |succ k'=>exact k5 k' r2 w2 (by omega) (by simpa using hr) hw
  ·rw [cQ,k2]
   by_cases hi:∃w∈r.ws,w.1=i
   ·obtain ⟨w,hw,rfl⟩:=hi;refine .inl ⟨0,r,w,rfl,hw,rfl,w2 w hw,λk' r2 w2 hk hr2 hw2=>?_⟩;cases k' with
    |zero=>omega
    |succ k'=>exact k1 k' r2 w2 (by simpa using hr2) hw2
   ·have hi:∀w∈r.ws,w.1≠i:=λw hw e=>hi ⟨w,hw,e⟩;refine .inr ⟨λk r' w' hk hw=>?_,w3 i hi⟩;cases k with
    |zero=>simp at hk;subst hk;exact hi w' hw
    |succ k=>exact k1 k r' w' (by simpa using hk) hw
theorem vZ {h:H} {rs:List R} {j:Nat} (hlt:∀(k:Nat) (r:R),k<j→rs[k]? = some r→(r.ws.map (·.1)).Nodup∧∀w∈r.ws,w.1<h.length):BH rs (· < j) h ((rs.take j).foldl wr h):=by
 have get:∀(k:Nat) (r:R),(rs.take j)[k]? = some r↔k<j∧rs[k]? = some r:=by
  intro k r;rw [ao]
  by_cases hk:k<j
  ·simp [hk]
  ·simp [hk]
 obtain ⟨g1,g2⟩:=Eb h.length (rs.take j) (λk r hk=>hlt k r ((get k r).1 hk).1 ((get k r).1 hk).2) h rfl;refine ⟨g1,λi=>?_⟩;rcases g2 i with ⟨k,r,w,k1,k2,k3,k4,k5⟩ | ⟨k1,k2⟩
 ·exact .inl ⟨k,r,w,((get k r).1 k1).1,((get k r).1 k1).2,k2,k3,k4,λk' r' w' hk' hlt' hr' hw'=>k5 k' r' w' hlt' ((get k' r').2 ⟨hk',hr'⟩) hw'⟩
 ·exact .inr ⟨λk r w hk hr hw=>k1 k r w ((get k r).2 ⟨hk,hr⟩) hw,k2⟩
structure Rj (P:Program) (n:Nat) (ops:Array Oper) (is:List I) (bs:List (List Nat)) (m:Nat) (lo:Nat) (rs:List R) (t:T) (h:H):Prop where
  il:is.length=ops.size
  ml:m≤ops.size
  ci:∀(j:Nat) (o:Oper),ops[j]? = some o→∃i,is[j]? = some i∧oY P n ops o=some i
  cl:∀(j:Nat) (o:Oper),ops[j]? = some o→∃b,bs[j]? = some b∧(∀k∈pD o,k∈b)∧∀k∈b,k∈pD o∨∃k'∈pD o,∃b':List Nat,bs[k']? = some b'∧k∈b'
  lt:∀(j:Nat) (b:List Nat),bs[j]? = some b→∀k∈b,k<j
  fu:∀(j:Nat) (b:List Nat),m≤j→bs[j]? = some b→∀i,i<j→i∈b
  dj:∀(i j:Nat) (x y:I) (bi bj:List Nat),i<m→j<m→i≠j→is[i]? = some x→is[j]? = some y→bs[i]? = some bi→bs[j]? = some bj →
    (∀s,x.d=some s→y.d≠some s)∧∀s,y.d=some s→s∈bU x.o++v7 x.g→j∈bi∨i∈bj
  vq:∀(j:Nat) (x:I),j<m→is[j]? = some x→∃r tj acj,rs[j]? = some r∧ze ow P lo x tj acj r∧agree is (rs.map (·.v)) (· < j) t tj∧BH rs (· < j) h acj
  rl:rs.length=m
  cf:∀(j k:Nat) (r r':R) (b:List Nat),rs[j]? = some r→rs[k]? = some r'→bs[k]? = some b→j<k→Mn r r'→j∈b
  kc:∀(j:Nat) (r:R),rs[j]? = some r→∀id∈r.kl,(∀s,id∉eT (gs t s))∧(∀(i:Nat) (b:B),h[i]? = some b→i∉r.rd→id∉eZ b) ∧
    ∀(k:Nat) (r':R) (x:I),k<j→rs[k]? = some r'→is[k]? = some x→(∀d,x.d=some d→id∉eT r'.v)∧∀w∈r'.ws,w.1∉r.rd→id∉eZ w.2
theorem vd:∀(ids:List Nat) (h:H),(ids.map λi=>(i,B.no)).foldl (λa w=>a.set w.1 w.2) h=gone ids h
  |[],h=>by
    refine cR λi=>?_
    rw [nG];simp
  |j :: ids,h=>by
    rw [cG,cQ,vd ids]
    refine cR λi=>?_
    simp only [nG,af,dE]
    by_cases e1:i=j
    · subst e1
      by_cases hl:i<h.length
      · simp [hl]
      · simp [hl]
    · simp only [e1,false_or,show ¬j=i from λe=>e1 e.symm,ψ]
theorem DJ {h1 h2:H} {x:V} (h:∀i∈ij x,get? h1 i=get? h2 i):uv h1 x=uv h2 x:=by
 cases x<;>first | rfl | (simp only [uv,h _ (aL.2 rfl)])
theorem DM {h1 h2:H} {x:V} (h:∀i∈kI x,get? h1 i=get? h2 i):uw h1 x=uw h2 x:=by
 by_cases hx:∃g c,x=V.fc g c
 ·obtain ⟨F,c,rfl⟩:=hx;simp only [kI,aO] at h;simp only [uw,aZ (λx hx=>DJ λi hi=>h i ⟨x,hx,hi⟩)]
 ·obtain ⟨_,e2,_⟩:=k0 (λg c e=>hx ⟨g,c,e⟩);have e:∀h:H,uw h x=uv h x:=λh=>by cases x<;>first | rfl | exact absurd ⟨_,_,rfl⟩ hx
  rw [e,e];exact DJ (by rw [←e2];exact h)
theorem Mw {h1 h2:H} {x:V} (h:∀i∈jJ x,get? h1 i=get? h2 i):FD h1 x=FD h2 x:=by
 by_cases hx:∃c,x=V.ag c
 ·obtain ⟨c,rfl⟩:=hx;simp only [jJ,aO] at h;simp only [FD,aZ (λx hx=>DM λi hi=>h i ⟨x,hx,hi⟩)]
 ·obtain ⟨_,e2,_⟩:=k1 (λc e=>hx ⟨c,e⟩);have e:∀h:H,FD h x=uw h x:=λh=>by cases x<;>first | rfl | exact absurd ⟨_,rfl⟩ hx
  rw [e,e];exact DM (by rw [←e2];exact h)
theorem Mv {h1 h2:H} {x:V} (h:∀i∈eT x,get? h1 i=get? h2 i):rY h1 x=rY h2 x:=by
 by_cases hx:∃c,x=V.tu c
 ·obtain ⟨c,rfl⟩:=hx;rfl
 ·obtain ⟨_,e2,_⟩:=k2 (λc e=>hx ⟨c,e⟩);have e:∀h:H,rY h x=FD h x:=λh=>by cases x<;>first | rfl | exact absurd ⟨_,rfl⟩ hx
  rw [e,e];exact Mw (by rw [←e2];exact h)
theorem W_ {G G':Nat→Prop} {ρ ρ':List Value} {t:T} {a:Act} {w w':World} {hL:H} {ns:List B} {nf:List Nat} {lo:Nat} (hC:ak E n G ρ t hL a w) (hC':ak E n G' ρ' t (hL++ns) a w') (hlo:E.ρ.length≤lo) (hE:E.ρ.length=E.h.length) (hl:nf.length=ns.length) (hnd:nf.Nodup)
  (hnw:∀i∈nf,hL[i]? = some .nw) (hnf:∀i∈nf,lo≤i) (hρ:ρ.length=hL.length) :
  ∃ρ2,ak E n G' ρ2 t ((nf.zip (ns.map (eR λk=>if k<hL.length then k else (get? nf (k - hL.length)).getD 0))).foldl (λa w=>a.set w.1 w.2) hL) a w'∧∀(v:Value) (x:V),au G' w' ρ' v x→au G' w' ρ2 v (gS (λk=>if k<hL.length then k else (get? nf (k - hL.length)).getD 0) x):=by
 refine hC'.move (nf:=nf) (f:=λk=>if k<hL.length then k else (get? nf (k - hL.length)).getD 0) hl hnd hnw (λi hi=>aV hlo (hnf i hi)) (by rw [hE];exact hC.ok.hl) hC.ok.hl (λk hk=>by simp only [hk,if_true]) (λk i hk=>by
   simp only [show ¬(hL.length+k<hL.length) by omega,ψ,get?_eq];rw [show hL.length+k - hL.length=k by omega,hk,bo]) (λs i hi=>?_) (λi b hb j hj=>?_)
 ·have:=(hC.tm s).lt i hi;omega
 ·have hil:i<ρ.length:=by rw [hρ];exact (aC.1 hb).1
  have:=(hC.ok.hr.rep i _ b (aA hil) hb).lt j hj;omega
theorem Sf {G:Nat→Prop} {ρ:List Value} {t:T} {a:Act} {w:World} {o:Oper} {bV:Act→World→Prop} {ops:Array Oper} {i:I} {lo:Nat} {hL:H} {r:R} (hC:ak E n G ρ t hL a w) (hlo:E.ρ.length≤lo) (hE:E.ρ.length=E.h.length) (hi:oY P n ops o=some i) {ac:H} (hq:ze ow P lo i t ac r)
  (hlen:hL.length=ac.length) (hfoot:∀id,(id∈r.rd∨id∈kJ r)→hL[id]? = ac[id]?) (hkl:∀id∈r.kl,(∀s,id∉eT (gs t s))∧∀(j:Nat) (b:B),hL[j]? = some b→j∉r.rd→id∉eZ b)
  (hnx:∀(a':Act) (w':World) (G':Nat→Prop) (ρ':List Value),ak E n G' ρ' (fk i.d r.v t) (wr hL r) a' w'→bV a' w') :
  if Region.wanted o (yielded ops a.tmps) then o.wp P a w bV Q else bV (a.put o.dst undef) w:=by
 obtain ⟨hx,hd,hlt,hg⟩:=nO hi;rcases hq with ⟨h1,h2,hq⟩ | hq | hq | hq | hq | hq | hq
 ·skip
  have hwr:wr hL r=hL:=by simp [wr,h1]
  rw [hwr] at hnx;have hM:NH hL (yl r.rd ac):=by
   intro id b hb hn;rw [get?_eq] at hb ⊢;simp only [yl,aB,aG] at hb;obtain ⟨p,hp,he⟩:=hb;rw [lW] at hp;cases hh:ac[id]? with
   |none=>rw [hh] at hp;cases hp
   |some x=>
    rw [hh] at hp;simp only [bE,aE,cF] at hp;subst hp;simp only at he;cases hc:has r.rd id<;>rw [hc] at he
    ·exact absurd he.symm hn
    ·rw [hfoot id (.inl (cK.1 hc)),hh];exact κ some he
  obtain ⟨v,ws,rd,kl⟩:=r;simp only at h1 h2 hq hM hnx
  replace hq:w8 ow P i t hL v:=w8.more ow hq hM
  have run:Qt ow P i.o t hL v→o.wp P a w bV Q:=by
   intro hk;refine ou ow hC (λv' w' G' ρ' t' h' u hC' hv ⟨e1,e2,e3⟩=>?_) (λv' w' G' ρ' t' h' u _ _ hf=>hf.elim) hx (hk t hL (λ_ _=>rfl) λ_ _ h _=>h);subst e1 e2 e3;rw [hd] at hnx;exact hnx _ _ _ _ (hC'.fk o.dst hlt hv)
  have pass:v = .ud→bV (a.put o.dst undef) w:=by
   intro hv;subst hv;rw [hd] at hnx;exact hnx _ _ _ _ (hC.fk o.dst hlt A0)
  cases hgo:o.guard with
  |none=>
   rw [hgo] at hg;simp only at hg;unfold w8 at hq;rw [hg] at hq;rw [ζ (by simp [Region.wanted,hgo])];exact run hq
  |some p=>
   obtain ⟨j,x⟩:=p;rw [hgo] at hg;obtain ⟨d,hd1,hg⟩:=hg;unfold w8 at hq;rw [hg] at hq;rcases hq with ⟨b,hb,h1,h2⟩ | ⟨hb,h1⟩
   ·rw [mT hC hgo hd1 hb]
    by_cases hbx:b=x
    ·rw [ζ (by simp [hbx])];exact run (h1 hbx)
    ·rw [η (by simp [hbx])];exact pass (h2 hbx)
   ·rw [qL hC hgo hd1 hb];exact pass h1
 ·skip
  obtain ⟨x,y,m,id,off,cs,rfl,h1,h2,⟨c1,c2,c3⟩,rfl⟩:=hq;simp only at hd;have hgo:o.guard=none:=by
   cases hgo:o.guard with
   |none=>rfl
   |some p=>rw [hgo] at hg;obtain ⟨d,_,hg⟩:=hg;cases hg
  rw [ζ (by simp [Region.wanted,hgo])];have h2':get? hL id=some (.cells cs):=by rw [get?_eq,hfoot id (.inr (by simp [kJ])),←get?_eq];exact h2
  refine ou ow hC (K:=λ_ t' h'=>t'=t∧h'=hL.set id (.cells (lay cs off (gv t y).cs))) (KP:=λ_ _ _=>False) (λv' w' G' ρ' t' h' z hC' hv ⟨e1,e2⟩=>?_) (λv' w' G' ρ' t' h' u _ _ hf=>hf.elim) hx ?_
  ·subst e1 e2;rw [←hd];exact hnx _ _ _ _ hC'
  ·simp only [bq,h1,h2',bf];exact ⟨⟨c1,c2,c3⟩,trivial,trivial⟩
 ·skip
  obtain ⟨d,id,bb,vv,oo,rfl,h3,h5,hnwo,rfl⟩:=hq;simp only at hd hx;have hgo:o.guard=none:=by
   cases hgo:o.guard with
   |none=>rfl
   |some p=>rw [hgo] at hg;obtain ⟨d,_,hg⟩:=hg;cases hg
  rw [ζ (by simp [Region.wanted,hgo])];have hnw:hL[id]? = some .nw:=by rw [hfoot id (.inr (by simp [kJ])),←get?_eq];exact h3
  have hul:id<ρ.length:=by rw [hC.ok.hr.len];exact (aC.1 hnw).1
  rcases hnwo with ⟨cs,rfl,rfl,rfl⟩ | ⟨pl,rfl,rfl,rfl⟩
  ·obtain ⟨ty,ho,hz⟩:=Jb (hx.resolve_right λe=>by cases e);obtain ⟨i,z,hi,hz0,z1,_,z3⟩:=jf (G:=G) (w:=w) (ρ := ρ) hz;have hg:=gK.alloc w (.cells z.cells ty);have hC1:=hC.grow hg (λ_ h=>h) (λ_ h=>.inl h);have hC2:=hC1.place hnw (by omega) (hd:=.pointer (some ⟨w.heap.size,0,none⟩)) (x:=.cells cs) ⟨w.heap.size,z.cells,ty,rfl,heap_alloc_new w _,z1,λj y hj=>(dI.k (z3 j y hj).1).mono (λ_ h=>h) (λb hb=>hg.iE b (hC.ok.hr.gl b hb)) (λ_ _=>rfl)⟩ (λb hb=>by
    simp only [eU,fO,gh,Option.toList_some,cV,aL] at hb;subst hb;refine ⟨hC.ok.size,λh=>?_,λh=>?_⟩
    ·have:=hC.ok.hr.gl _ h;omega
    ·have:=hC.ok.hr.yP h;omega)
   have h6:=hC2.fk o.dst hlt (x:=.p id 0) (v:=.pointer (some ⟨w.heap.size,0,none⟩)) (.k (.p id 0 w.heap.size (by rw [dE,ζ rfl,ζ hul])));have h7:=hnx _ _ G _ (by simp only [wr,cQ,List.foldl_nil,hd];exact h6);exact dU (w':=w.alloc (.cells z.cells ty)) (v':=.pointer (some ⟨w.heap.size,0,none⟩)) (by simp [execOp,ho,Instr.alloc,zeroValue,typeInfo,hi,hz0,newVar,newRow]) h7
  ·obtain ⟨ty,ho⟩:=J9 (hx.resolve_right λe=>by cases e);have hg:=gK.alloc w (.map #[] 0);have hC1:=hC.grow hg (λ_ h=>h) (λ_ h=>.inl h);have hC2:=hC1.place hnw (by omega) (hd:=.map (some w.heap.size)) (x:=KM pl) (by
    exact C1 pl (heap_alloc_new w _)) (λb hb=>by
    rw [eU,G_] at hb;simp only [fO,Option.toList_some,cV,aL] at hb;subst hb;refine ⟨hC.ok.size,λh=>?_,λh=>?_⟩
    ·have:=hC.ok.hr.gl _ h;omega
    ·have:=hC.ok.hr.yP h;omega)
   have h6:=hC2.fk o.dst hlt (x:=.mp id) (v:=.map (some w.heap.size)) (.k (.mp id w.heap.size (by rw [dE,ζ rfl,ζ hul])));have h7:=hnx _ _ G _ (by simp only [wr,cQ,List.foldl_nil,hd];exact h6);refine dU (w':=w.alloc (.map #[] 0)) (v':=.map (some w.heap.size)) ?_ h7;simp only [execOp,ho];exact cT (by simp [Instr.makeMap])
 ·skip
  obtain ⟨f,args,ids,r0,ns,nf,hgi,hof,hown,hids,hchk,hos,hS,hl,hne,hnf,hnd,rfl⟩:=hq;have hgo:o.guard=none:=by
   cases hgo:o.guard with
   |none=>rfl
   |some p=>rw [hgo] at hg;obtain ⟨d,_,hg⟩:=hg;rw [hgi] at hg;cases hg
  rw [ζ (by simp [Region.wanted,hgo])];rw [hof] at hx;generalize hvs:(args.map λx=>cH (gv t x))=vs at *;simp only at hfoot hkl hnx;have hch:=hchk;simp only [FQ,aP,aS] at hch;obtain ⟨⟨hch1,hch2⟩,hch3⟩:=hch;have hin:∀i∈ids,i<hL.length:=λi hi=>by
   have:=(hch2 i hi).1.1;rw [hlen];exact (fH ..).mp this
  have hsame:∀i∈ids,get? hL i=get? ac i:=λi hi=>by rw [get?_eq,get?_eq];exact hfoot i (.inl hi)
  have hclo:∀i∈ids,∀b,hL[i]? = some b→∀j∈eZ b,j∈ids:=λi hi b hb j hj=>by
   have:=(hch2 i hi).2;rw [←hsame i hi,get?_eq,hb,bo] at this;exact cK.1 (this j hj)
  have hreach:reach hL 100 (vs.flatMap eT) []=ids:=by
   rw [←hids];exact yI 100 _ _ (λi hi=>hsame i (by rw [←hids];exact hi))
  have hchk':FQ hL ids (vs.flatMap eT)=true:=by
   simp only [FQ,aP,aS];refine ⟨⟨hch1,λi hi=>?_⟩,hch3⟩;have:=hch2 i hi;rw [hsame i hi,hlen];exact this
  have hbl:(ids.map λi=>eR (pos ids) ((get? hL i).getD .no))=ids.map λi=>eR (pos ids) ((get? ac i).getD .no):=aZ λi hi=>by rw [hsame i hi]
  have hrow:rowsOf hL ids=rowsOf ac ids:=dX λi hi=>by rw [hsame i hi]
  have hnd':=iH hch1;have hback:back ids (home hL.length ids) (mP (rowsOf ac ids) hL) ((ids.map λi=>eR (pos ids) ((get? hL i).getD .no))++ns)=hL++ns.map (eR (home hL.length ids)):=by
   have hkl':(mP (rowsOf ac ids) hL).length=hL.length:=lO _ _;refine cR λi=>?_
   by_cases hil:i<hL.length
   ·rw [aT hil]
    by_cases hi:i∈ids
    ·rw [zS hi (by omega) (by simp)];have hp:=sy hi;rw [aT (by simpa using hp),aB,iA hi];simp only [bE,get?_eq];rw [aA hil,bo,sd,CB λj hj=>?_];have hjm:=hclo i hi _ (aA hil) j hj;rw [sE (iA hjm)]
    ·rw [zQ hi (by omega)];exact Av _ _ _ λj hj b hb=>(hkl j hj).2 i b hb hi
   ·rw [zR (by omega),hkl',aY (by rw [aH];omega),aH,aY (by omega),aB];congr 2;omega
  have hgm:(λk=>(λk=>if k<hL.length then k else (get? nf (k - hL.length)).getD 0) (home hL.length ids k))=gm ids nf:=by
   funext k
   simp only [gm];cases hk:get? ids k with
   |some i=>
    rw [sE (by rw [←get?_eq];exact hk),bo,ζ (hin i (aJ (by rw [←get?_eq];exact hk)))]
   |none=>
    have hkl:ids.length≤k:=by
     rw [get?_eq] at hk;exact List.getElem?_eq_none_iff.1 hk
    rw [xE hkl,Option.getD_none,η (by omega)];congr 2;omega
  refine ou ow hC (K:=λv' t' h'=>v'=gS (home hL.length ids) r0∧(∀s,gs t' s=gs t s)∧h'=hL++ns.map (eR (home hL.length ids))) (KP:=λ_ _ _=>False) (λv' w' G' ρ' t' h' z hC' hv ⟨e1,e2,e3⟩=>?_) (λv' w' G' ρ' t' h' u _ _ hf=>hf.elim) hx ?_
  ·subst e1 e3;have hC2:=hC'.congr (λs=>(e2 s).symm);have hht:∀s,∀i∈eT (gs t s),i<hL.length:=λs i hi=>by
    have:=(hC.tm s).lt i hi;rwa [hC.ok.hr.len] at this
   have hhh:∀(i:Nat) (b:B),hL[i]? = some b→∀j∈eZ b,j<hL.length:=λi b hb j hj=>by
    have hil:i<ρ.length:=by rw [hC.ok.hr.len];exact (aC.1 hb).1
    have:=(hC.ok.hr.rep i _ b (aA hil) hb).lt j hj;rwa [hC.ok.hr.len] at this
   obtain ⟨ρ2,hC3,hval⟩:=hC2.move (nf:=nf) (f:=λk=>if k<hL.length then k else (get? nf (k - hL.length)).getD 0) (by simpa using hl) hnd (λi hi=>by
     have hw:i∈kJ (⟨gS (gm ids nf) r0,nf.zip (ns.map (eR (gm ids nf))),ids,rowsOf ac ids⟩:R):=by
      have e:kJ (⟨gS (gm ids nf) r0,nf.zip (ns.map (eR (gm ids nf))),ids,rowsOf ac ids⟩:R)=nf:=dr (by rw [aH];omega);rw [e];exact hi
     rw [hfoot i (.inr hw),←get?_eq];exact (hnf i hi).2) (λi hi=>aV hlo (hnf i hi).1) (by rw [hE];exact hC.ok.hl) hC.ok.hl (λk hk=>by simp only [hk,if_true]) (λk i hk=>by
      simp only [show ¬(hL.length+k<hL.length) by omega,ψ,get?_eq];rw [show hL.length+k - hL.length=k by omega,hk,bo]) hht hhh
   have e4:(ns.map (eR (home hL.length ids))).map (eR λk=>if k<hL.length then k else (get? nf (k - hL.length)).getD 0)=ns.map (eR (gm ids nf)):=by
    rw [bn];refine aZ λb _=>?_;simp only [Function.comp,sd];rw [←hgm]
   rw [e4] at hC3;have hv2:=hval _ _ hv;rw [se,hgm] at hv2;rw [hd] at hnx;exact hnx _ _ _ _ (hC3.fk o.dst hlt hv2)
  ·have hcx:qA (Sat P) f vs t hL (λv' t' h'=>v'=gS (home hL.length ids) r0∧(∀s,gs t' s=gs t s)∧h'=hL++ns.map (eR (home hL.length ids))) (λ_ _ _=>False):=by
    unfold qA;cases hv:vs.flatMap eT with
    |nil=>
     rw [hv] at hids;have hids0:ids = []:=by rw [←hids];rfl
     subst hids0;have hm:vs.map (gS (pos []))=vs:=fC λx hx=>AY (by
      rw [br] at hv;exact hv x hx)
     rw [hm] at hS;refine Sat.mono hS λout h' ⟨k1,k2⟩=>?_;subst k1 k2;cases h' with
     |nil=>simp at hne
     |cons b ns=>
      simp only [f_];have hh:home hL.length []=λi=>hL.length+i:=by
       funext k
       simp [home,get?]
      rw [hh];exact ⟨rfl,λ_=>trivial,rfl⟩
    |cons i is=>
     rw [hv] at hreach hchk';simp only [bf,f_,BV,hreach];refine ⟨hchk',?_⟩;rw [hbl];refine Sat.mono hS λout h' ⟨k1,k2⟩=>?_;subst k1 k2;rw [hrow,sD,←hbl,hback];exact ⟨rfl,Au _ _ λi hi s=>(hkl i hi).1 s,rfl⟩
   simp only [bq,bf,hvs,hown,ε];unfold px;split
   ·exact hcx
   ·refine .inr (C9 ?_);rw [hos];exact hcx
 ·skip
  obtain ⟨f,args,r0,ns,nf,hgi,hof,⟨hown,hne⟩,hS,hl,hns,hr0,hnf,hnd,rfl⟩:=hq;have hgo:o.guard=none:=by
   cases hgo:o.guard with
   |none=>rfl
   |some p=>rw [hgo] at hg;obtain ⟨d,_,hg⟩:=hg;rw [hgi] at hg;cases hg
  rw [ζ (by simp [Region.wanted,hgo])];rw [hof] at hx;generalize hvs:(args.map λx=>cH (gv t x))=vs at *;simp only at hfoot hnx;have hb:vs.map (rY hL)=vs.map (rY ac):=aZ λx hx=>Mv λi hi=>by
   rw [get?_eq,get?_eq];exact hfoot i (.inl (aO.2 ⟨x,hx,hi⟩))
  rw [←hb] at hS;refine ou ow hC (K:=λv' t' h'=>v'=gS (λk=>hL.length+k) r0∧t'=t∧h'=hL++ns) (KP:=λ_ _ _=>False) (λv' w' G' ρ' t' h' z hC' hv ⟨e1,e2,e3⟩=>?_) (λv' w' G' ρ' t' h' u _ _ hf=>hf.elim) hx ?_
  ·subst e1 e2 e3;obtain ⟨ρ2,hC3,hval⟩:=W_ hC hC' hlo hE hl hnd (λi hi=>by
    have hw:i∈kJ (⟨gS (λk=>(get? nf k).getD 0) r0,nf.zip ns,vs.flatMap eT,[]⟩:R):=by
     have e:kJ (⟨gS (λk=>(get? nf k).getD 0) r0,nf.zip ns,vs.flatMap eT,[]⟩:R)=nf:=dr (by omega);rw [e];exact hi
    rw [hfoot i (.inr hw),←get?_eq];exact (hnf i hi).2) (λi hi=>(hnf i hi).1) (by rw [hC.ok.hr.len])
   have e4:ns.map (eR λk=>if k<hL.length then k else (get? nf (k - hL.length)).getD 0)=ns:=fC λb hb=>CB λj hj=>by
    have h1:=aS.1 hns b hb;cases b<;>first | (cases h1;done) | cases hj
   rw [e4] at hC3;have hv2:=hval _ _ hv;rw [se] at hv2;have e5:(λi=>if hL.length+i<hL.length then hL.length+i else (get? nf (hL.length+i - hL.length)).getD 0)=λk=>(get? nf k).getD 0:=by
    funext k
    rw [η (by omega),Nat.add_sub_cancel_left]
   rw [e5] at hv2;rw [hd] at hnx;exact hnx _ _ _ _ (hC3.fk o.dst hlt hv2)
  ·simp only [bq,bf,hvs,hown,ε];unfold px;split
   ·exact absurd ‹_› hne
   ·refine .inr (Ln ⟨r0,ns,hS,by rw [hns,hr0];rfl,?_⟩);rw [bf];exact ⟨rfl,rfl,rfl⟩
 ·skip
  obtain ⟨f,args,r0,ns,nf,ids,hgi,hof,hids,⟨hnd0,hrw⟩,hS,hl,hge,hnf,hnd,rfl⟩:=hq;have hgo:o.guard=none:=by
   cases hgo:o.guard with
   |none=>rfl
   |some p=>rw [hgo] at hg;obtain ⟨d,_,hg⟩:=hg;rw [hgi] at hg;cases hg
  rw [ζ (by simp [Region.wanted,hgo])];rw [hof] at hx;simp only at hfoot hnx;obtain ⟨c,ho,hcf,hf5,ha⟩:=Ja (hx.resolve_right λe=>by cases e);obtain ⟨g1,g2⟩:=oG hC _ _ _ ha;have hrun:eo P f=true→(execOp a.eval o).run P w = .ok (.enter f (c.args.map a.eval)) w:=λhok=>by
   have:=gC (P:=P) (w:=w) (as:=c.args.map a.eval) hok;simp [execOp,ho,resolve,hcf,Act.eval,Deferred.ofValue,invoke,this]
  have hU:∀(i:Nat) (x:V),(args.map λx=>cH (gv t x))[i]? = some x→au G w ρ ((c.args.map a.eval).getD i undef) x:=by
   intro i x hx;rw [aB] at hx;cases hc:args[i]? with
   |none=>rw [hc] at hx;cases hx
   |some y=>
    rw [hc] at hx;cases hx;have:=g2 i y hc;rw [a8,aB,bt] at this;rw [aF,gQ];exact qd this
  generalize hvs:(args.map λx=>cH (gv t x))=vs at *;have hsz:(c.args.map a.eval).size=vs.length:=by rw [←hvs];simp [g1]
  have hsame:∀i∈ids,get? hL i=get? ac i:=λi hi=>by rw [get?_eq,get?_eq];exact hfoot i (.inl hi)
  have hbl:(ids.map λi=>eR (pos ids) ((get? hL i).getD .no))=ids.map λi=>eR (pos ids) ((get? ac i).getD .no):=aZ λi hi=>by rw [hsame i hi]
  rw [←hbl] at hS;have hrw':∀i∈ids,∃z rs,hL[i]? = some (.rows z rs):=λi hi=>by
   obtain ⟨z,rs,e⟩:=hrw i hi;exact ⟨z,rs,by rw [←get?_eq,hsame i hi];exact e⟩
  refine D8 hC hf5 hrun hsz hU (λx hx j hj=>by rw [←hids];exact aO.2 ⟨x,hx,hj⟩) hnd0 hrw' hS (λb hb k hk=>hge k (fW _ (aO.2 ⟨b,hb,hk⟩))) (λk hk=>hge k (fI _ hk)) λv w' G' ρ' hC' hv=>?_;have hdis:∀i∈nf,i∉ids:=λi hi h=>by
   obtain ⟨z,rs,e⟩:=hrw i h;rw [(hnf i hi).2] at e;cases e
  have hwid:∀i∈nf,i∈kJ (⟨gS (gt ids.length nf) r0,(ids.map λi=>(i,B.no))++nf.zip (ns.map (eR (gt ids.length nf))),ids,[]⟩:R):=λi hi=>by
   have e:kJ (⟨gS (gt ids.length nf) r0,(ids.map λi=>(i,B.no))++nf.zip (ns.map (eR (gt ids.length nf))),ids,[]⟩:R)=ids++nf:=AD hl;rw [e];exact fI _ hi
  have hgl:=lR ids hL;have hht:∀s,∀i∈eT (gs t s),i<(gone ids hL).length:=λs i hi=>by
   have:=(hC.tm s).lt i hi;rw [hgl];rwa [hC.ok.hr.len] at this
  have hhh:∀(i:Nat) (b:B),(gone ids hL)[i]? = some b→∀j∈eZ b,j<(gone ids hL).length:=λi b hb j hj=>by
   rw [nG] at hb;split at hb
   ·rw [aG] at hb;obtain ⟨_,_,rfl⟩:=hb;cases hj
   ·have hil:i<ρ.length:=by rw [hC.ok.hr.len];exact (aC.1 hb).1
    have:=(hC.ok.hr.rep i _ b (aA hil) hb).lt j hj;rw [hgl];rwa [hC.ok.hr.len] at this
  obtain ⟨ρ2,hC3,hval⟩:=hC'.move (nf:=nf) (f:=λk=>if k<hL.length then k else (get? nf (k - hL.length)).getD 0) (by simpa using hl) hnd (λi hi=>by
    rw [nG,η (hdis i hi),hfoot i (.inr (hwid i hi)),←get?_eq];exact (hnf i hi).2) (λi hi=>aV hlo (hnf i hi).1) (by rw [hgl,hE];exact hC.ok.hl) (by rw [hgl];exact hC.ok.hl) (λk hk=>by rw [hgl] at hk;simp only [hk,if_true]) (λk i hk=>by
     rw [hgl];simp only [show ¬(hL.length+k<hL.length) by omega,ψ,get?_eq];rw [show hL.length+k - hL.length=k by omega,hk,bo]) hht hhh
  have cg:∀k,ids.length≤k→(if hL.length+k - ids.length<hL.length then hL.length+k - ids.length else (get? nf (hL.length+k - ids.length - hL.length)).getD 0)=gt ids.length nf k:=λk hk=>by
   rw [η (by omega),gt];congr 2;omega
  have e4:(ns.map (eR λk=>hL.length+k - ids.length)).map (eR λk=>if k<hL.length then k else (get? nf (k - hL.length)).getD 0)=ns.map (eR (gt ids.length nf)):=by
   rw [bn];refine aZ λb hb=>?_;simp only [Function.comp,sd];exact Pp λk hk=>cg k (hge k (fW _ (aO.2 ⟨b,hb,hk⟩)))
  rw [e4] at hC3;have hv2:=hval _ _ hv;rw [se,Pq λk hk=>cg k (hge k (fI _ hk))] at hv2;have e6:wr hL (⟨gS (gt ids.length nf) r0,(ids.map λi=>(i,B.no))++nf.zip (ns.map (eR (gt ids.length nf))),ids,[]⟩:R)=(nf.zip (ns.map (eR (gt ids.length nf)))).foldl (λa w=>a.set w.1 w.2) (gone ids hL):=by
   simp only [wr,List.foldl_append];rw [vd]
  rw [e6,hd] at hnx;exact hnx _ _ _ _ (hC3.fk o.dst hlt hv2)
 ·skip
  obtain ⟨d,id,z,zero,m,parts,ds,rfl,h1,h2,h3,h4,rfl⟩:=hq;simp only at hd hx;have hgo:o.guard=none:=by
   cases hgo:o.guard with
   |none=>rfl
   |some p=>rw [hgo] at hg;obtain ⟨d,_,hg⟩:=hg;cases hg
  rw [ζ (by simp [Region.wanted,hgo])];simp only at hfoot hnx;refine ou ow hC (K:=λv' t' h'=>v' = .os hL.length∧t'=t∧h'=hL ++ [.rows z (chunk z m ds)]) (KP:=λ_ _ _=>False) (λv' w' G' ρ' t' h' u hC' hv ⟨e1,e2,e3⟩=>?_) (λv' w' G' ρ' t' h' u _ _ hf=>hf.elim) hx ?_
  ·subst e1 e2 e3;obtain ⟨ρ2,hC3,hval⟩:=W_ hC hC' (nf:=[id]) hlo hE rfl (by simp) (λi hi=>by
    rw [aL.1 hi,hfoot id (.inr (by simp [kJ])),←get?_eq];exact h1) (λi hi=>by rw [aL.1 hi];exact h2) (by rw [hC.ok.hr.len])
   have hv2:=hval _ _ hv;have e5:gS (λk=>if k<hL.length then k else (get? [id] (k - hL.length)).getD 0) (.os hL.length) = .os id:=by
    simp [gS,pK,sk,wW,get?]
   rw [e5] at hv2;have h6:=hC3.fk o.dst hlt hv2;rw [hd] at hnx;exact hnx _ _ _ _ h6
  ·simp only [bq,bf];refine ⟨h3,h4 _ _ _ ?_⟩;refine xT ?_;rw [cZ];exact ⟨rfl,rfl,rfl⟩
section
variable {ops:Array Oper} {is:List I} {bs:List (List Nat)} {m lo:Nat} {rs:List R} {vs:List V} {t:T}
theorem uT (D:Rj ow P n ops is bs m lo rs t h) {L L':Nat→Prop} {t1 t2:T} (h1:agree is vs L t t1) (h2:agree is vs L' t t2) (hL:∀k,L k→k<m) (hL':∀k,L' k→k<m) (s:Nat)
  (e1:∀(k:Nat) (i:I),L k→is[k]? = some i→i.d=some s→L' k) (e2:∀(k:Nat) (i:I),L' k→is[k]? = some i→i.d=some s→L k):gs t1 s=gs t2 s:=by
 have wr:∀(k k':Nat) (i i':I),k<m→k'<m→is[k]? = some i→is[k']? = some i'→i.d=some s→i'.d=some s→k=k':=by
  intro k k' i i' hk hk' hi hi' hd hd'
  by_cases hne:k=k'
  ·exact hne
  ·have hlk:k<ops.size:=by have:=D.ml;omega
   have hlk':k'<ops.size:=by have:=D.ml;omega
   obtain ⟨b,hb,_⟩:=D.cl k _ (aN hlk);obtain ⟨b',hb',_⟩:=D.cl k' _ (aN hlk');exact absurd hd' ((D.dj k k' i i' b b' hk hk' hne hi hi' hb hb').1 s hd)
 rcases h1 s with ⟨k,i,a1,a2,a3,a4⟩ | ⟨a1,a2⟩<;>rcases h2 s with ⟨k',i',b1,b2,b3,b4⟩ | ⟨b1,b2⟩
 ·have:=wr k k' i i' (hL k a1) (hL' k' b1) a2 b2 a3 b3;subst this;rw [a4] at b4;exact aq b4
 ·exact absurd a3 (b1 k i (e1 k i a1 a2 a3) a2)
 ·exact absurd b3 (a1 k' i' (e2 k' i' b1 b2 b3) b2)
 ·rw [a2,b2]
theorem Bj {r:R} (hn:(r.ws.map (·.1)).Nodup) {w w':Nat×B} (h1:w∈r.ws) (h2:w'∈r.ws) (he:w.1=w'.1):w=w':=by
 revert hn h1 h2
 generalize r.ws=l
 induction l with
 |nil=>intro _ h1;cases h1
 |cons p l ih=>
  intro hn h1 h2;simp only [cG,cm] at hn;rcases af.1 h1 with e1 | k1<;>rcases af.1 h2 with e2 | k2
  ·rw [e1,e2]
  ·exact absurd (bJ.2 ⟨w',k2,by rw [←he,e1]⟩) hn.1
  ·exact absurd (bJ.2 ⟨w,k1,by rw [he,e2]⟩) hn.1
  ·exact ih hn.2 k1 k2
theorem Rj.nd (D:Rj ow P n ops is bs m lo rs t h) (k:Nat) (r:R) (hk:rs[k]? = some r):(r.ws.map (·.1)).Nodup:=by
 have hkm:k<m:=by rw [←D.rl];exact (aC.1 hk).1
 obtain ⟨r2,tk,ack,e1,e2,_⟩:=D.vq k _ hkm (aA (by rw [D.il];have:=D.ml;omega));rw [hk] at e1;cases e1;exact (ze.ws ow e2).1
variable (E K n is bs m rs t ops h) in
def Rf (listed:Array Bool) (a:Act) (w:World):Prop:=
  listed.size=ops.size∧(∀(j:Nat) (b:List Nat),listed.getD j false=true→bs[j]? = some b→∀k∈b,listed.getD k false=true) ∧
  (((∀ j, listed.getD j false = true → j < m) ∧ ∃ G ρ tL hL, ak E n G ρ tL hL a w ∧ agree is (rs.map (·.v)) (fun j => listed.getD j false = true) t tL ∧ BH rs (fun j => listed.getD j false = true) h hL) ∨
   ∃k,m≤k∧k≤ops.size∧(∀j,listed.getD j false=true↔j<k)∧∃G ρ t h,ak E n G ρ t h a w∧rx (Sat P) ow (is.drop k) t h K)
theorem gB {o:Oper} {k:Nat}:k∈pD o↔∃e∈o.after,Region.binds .any e=true∧e.on=k:=by
 simp only [pD,bJ,dh,fY];constructor
 ·rintro ⟨e,⟨h1,h2⟩,h3⟩;exact ⟨e,h1,h2,h3⟩
 ·rintro ⟨e,h1,h2,h3⟩;exact ⟨e,⟨h1,h2⟩,h3⟩
theorem iw {l:Array Bool} {j:Nat} (hj:l.getD j false=true):j<l.size:=by
 rcases de j l.size with h | h
 ·exact h
 ·simp [kG h] at hj
theorem ML {l:Array Bool} {j:Nat} (hj:j<l.size) (hf:¬l.getD j false=true):l.getD j true=false:=by
 simp [hj] at hf ⊢;exact hf
theorem Jt (D:Rj ow P n ops is bs m lo rs t h) {listed:Array Bool} (hs:listed.size=ops.size) (hr:Region.ready .any ops listed = []):∀j,j<ops.size→listed.getD j false=true:=by
 intro j
 induction j using Nat.strongRecOn with
 |_ j ih=>
  intro hj
  by_cases hl:listed.getD j false=true
  ·exact hl
  ·exfalso;have:j∈Region.ready .any ops listed:=by
    rw [mem_ready];refine ⟨ML (by omega) hl,ops[j],aN hj,λe he hb=>?_⟩;obtain ⟨b,hb1,hb2,_⟩:=D.cl j _ (aN hj);have:=D.lt j b hb1 e.on (hb2 _ (gB.2 ⟨e,he,hb,rfl⟩));exact ih _ this (by omega)
   rw [hr] at this;cases this
theorem count_set {l:Array Bool} {j:Nat} (hj:l.getD j true=false):(l.setIfInBounds j true).toList.count false<l.toList.count false:=by
 have hl:j<l.size:=by
  rcases de j l.size with h | h
  ·exact h
  ·simp [kG h] at hj
 have hv:l[j]=false:=by simpa [hl] using hj
 rw [Array.toList_setIfInBounds,List.count_set (by simpa using hl)];have hm:false∈l.toList:=by rw [fY,←hv];exact Array.getElem_mem hl
 have:=List.count_pos_iff.2 hm;have e:((true:Bool)==false)=false:=rfl;simp only [Array.getElem_toList,hv,BEq.rfl,if_true,e,cj,ψ];omega
theorem E7 (D:Rj ow P n ops is bs m lo rs t h) {L L':Nat→Prop} {h1 h2:H} (g1:BH rs L h h1) (g2:BH rs L' h h2) (hL:∀k,k<m→L k) (hL':∀k,k<m→L' k):h1=h2:=by
 refine cR λi=>?_;have lt:∀(k:Nat) (r:R),rs[k]? = some r→k<m:=λk r hk=>by
  rw [←D.rl];exact (aC.1 hk).1
 rcases g1.2 i with ⟨k,r,w,a1,a2,a3,a4,a5,a6⟩ | ⟨a1,a2⟩<;>rcases g2.2 i with ⟨k',r',w',b1,b2,b3,b4,b5,b6⟩ | ⟨b1,b2⟩
 ·rcases eB k k' with e | e | e
  ·exact absurd b4 (a6 k' r' w' (hL k' (lt k' r' b2)) e b2 b3)
  ·subst e;rw [a2] at b2;cases b2;rw [a5,b5,Bj (D.nd ow k r a2) a3 b3 (a4.trans b4.symm)]
  ·exact absurd a4 (b6 k r w (hL' k (lt k r a2)) e a2 a3)
 ·exact absurd a4 (b1 k r w (hL' k (lt k r a2)) a2 a3)
 ·exact absurd b4 (a1 k' r' w' (hL k' (lt k' r' b2)) b2 b3)
 ·rw [a2,b2]
theorem JR (hlo:E.ρ.length≤lo) (hE:E.ρ.length=E.h.length) (D:Rj ow P n ops is bs m lo rs t h) {tR:T} {hR:H} (hK:rx (Sat P) ow (is.drop m) tR hR K) (hA:agree is (rs.map (·.v)) (· < m) t tR) (hH:BH rs (· < m) h hR):∀(fuel:Nat) (listed:Array Bool) (a:Act) (w:World),
    listed.toList.count false≤fuel→Rf (P:=P) E n h K ow ops is bs m rs t listed a w→wpAny P .any ops (QK E n K) fuel listed a w:=by
  have turn:∀(listed:Array Bool) (a:Act) (w:World),Rf (P:=P) E n h K ow ops is bs m rs t listed a w→(∀j,j<m→listed.getD j false=true) →
      ∃k,m≤k∧k≤ops.size∧(∀j,listed.getD j false=true↔j<k)∧∃G ρ t h,ak E n G ρ t h a w∧rx (Sat P) ow (is.drop k) t h K:=by
    intro listed a w ⟨h1,h2,h3⟩ hall
    rcases h3 with ⟨g1,G,ρ,tL,hL,hC,g2,g3⟩ | h3
    · have:=E7 ow D g3 hH hall (λ_ h=>h)
      subst this
      refine ⟨m,aM _,D.ml,λj=>⟨g1 j,hall j⟩,G,ρ,tR,hL,hC.congr λs=>?_,hK⟩
      exact uT ow D hA g2 (λ_ h=>h) g1 s (λk _ hk _ _=>hall k hk) (λk _ hk _ _=>g1 k hk)
    · exact h3
  have done:∀(listed:Array Bool) (a:Act) (w:World),Rf (P:=P) E n h K ow ops is bs m rs t listed a w→Region.ready .any ops listed = []→QK E n K .normal a w:=by
    intro listed a w hI hr
    have hall:=Jt ow D hI.1 hr
    obtain ⟨k,k1,k2,k3,G,ρ,t',h',hC,hk⟩:=turn listed a w hI (λj hj=>hall j (by have:=D.ml;omega))
    have:k=ops.size:=by
      rcases de k ops.size with h | h
      · have:=(k3 k).1 (hall k h);omega
      · omega
    subst this
    rw [et (by rw [D.il];omega)] at hk
    exact ⟨G,ρ,t',h',hC,hk⟩
  intro fuel
  induction fuel with
  |zero=>
    intro listed a w hc hI
    have hall:∀j,j<ops.size→listed.getD j false=true:=λj hj=>by
      have hj':j<listed.size:=by rw [hI.1];exact hj
      have h0:listed.toList.count false=0:=by omega
      rw [List.count_eq_zero] at h0
      cases hv:listed[j] with
      |true=>simp [hj',hv]
      |false=>exact absurd (by rw [fY,←hv];exact Array.getElem_mem hj') h0
    have hr:Region.ready .any ops listed = []:=by
      rw [ko]
      intro j hj
      obtain ⟨h1,o,h2,_⟩:=mem_ready.1 hj
      have h3:=hall j (aQ.1 h2).1
      have hj':=iw h3
      simp [hj'] at h1 h3
      rw [h3] at h1
      cases h1
    exact ⟨hr,done listed a w hI hr⟩
  |succ fuel ih=>
    intro listed a w hc hI
    refine ⟨done listed a w hI,λj hj=>?_⟩
    obtain ⟨hun,o,ho,hdep⟩:=mem_ready.1 hj
    have hjs:j<ops.size:=(aQ.1 ho).1
    have hjl:j<listed.size:=by rw [hI.1];exact hjs
    have hnl:¬listed.getD j false=true:=by simpa [hjl] using hun
    obtain ⟨b,hb,hb1,hb2⟩:=D.cl j o ho
    obtain ⟨i,hi,hci⟩:=D.ci j o ho
    have hready:∀k∈b,listed.getD k false=true:=λk hk=>by
      rcases hb2 k hk with h1 | ⟨k',h1,b',h2,h3⟩
      · obtain ⟨e,e1,e2,rfl⟩:=gB.1 h1
        exact hdep e e1 e2
      · obtain ⟨e,e1,e2,rfl⟩:=gB.1 h1
        exact hI.2.1 _ b' (hdep e e1 e2) h2 k h3
    have hset:∀k,(listed.setIfInBounds j true).getD k false=true↔k=j∨listed.getD k false=true:=λk=>by
      by_cases hkj:k=j
      · subst hkj;simp [hjl]
      · rw [getD_set_ne false (k_ hkj)];simp [hkj]
    have jb:∀(j':Nat) (b:List Nat),(listed.setIfInBounds j true).getD j' false=true→bs[j']? = some b→∀k∈b,(listed.setIfInBounds j true).getD k false=true:=by
      intro j' b' h1 h2 k hk
      rw [hset] at h1 ⊢
      rcases h1 with rfl | h1
      · rw [hb] at h2;cases h2;exact .inr (hready k hk)
      · exact .inr (hI.2.1 j' b' h1 h2 k hk)
    have hcnt:(listed.setIfInBounds j true).toList.count false≤fuel:=by have:=count_set hun;omega
    have hsz:(listed.setIfInBounds j true).size=ops.size:=by simpa using hI.1
    have go:(if Region.wanted o (yielded ops a.tmps) then o.wp P a w (wpAny P .any ops (QK E n K) fuel (listed.setIfInBounds j true)) (QK E n K) else wpAny P .any ops (QK E n K) fuel (listed.setIfInBounds j true) (a.put o.dst undef) w) →
        wpOp P ops (QK E n K) j (wpAny P .any ops (QK E n K) fuel (listed.setIfInBounds j true)) a w:=by
      intro hg
      unfold wpOp
      simp only [ho]
      split
      · rename_i hw;rw [ζ hw] at hg;exact .inl hg
      · rename_i hw;rw [η hw] at hg;exact hg
    refine go ?_
    by_cases hjm:j<m∧∀j,listed.getD j false=true→j<m
    · rcases hI.2.2 with ⟨g1,G,ρ,tL,hL,hC,g2,g3⟩ | ⟨k,k1,k2,k3,_⟩
      · obtain ⟨r,tj,acj,q1,q2,q3,q4⟩:=D.vq j i hjm.1 hi
        have hq:ze ow P lo i tL acj r:=ze.congr ow q2 λs hs=>by
          refine uT ow D g2 q3 g1 (λk hk=>by omega) s (λk y hk hy hd=>?_) (λk y hk hy hd=>?_)
          · have hkm:=g1 k hk
            have hks:k<ops.size:=by have:=D.ml;omega
            obtain ⟨bk,hbk,_⟩:=D.cl k _ (aN hks)
            have hne:j≠k:=λe=>hnl (e ▸ hk)
            rcases (D.dj j k i y b bk hjm.1 hkm hne hi hy hb hbk).2 s hd hs with h1 | h1
            · exact D.lt j b hb k h1
            · exact absurd (hI.2.1 k bk hk hbk j h1) hnl
          · have hkm:k<m:=by omega
            have hks:k<ops.size:=by have:=D.ml;omega
            obtain ⟨bk,hbk,_⟩:=D.cl k _ (aN hks)
            rcases (D.dj j k i y b bk hjm.1 hkm (by omega) hi hy hb hbk).2 s hd hs with h1 | h1
            · exact hready k h1
            · have:=D.lt k bk hbk j h1;omega
        have hnd:=D.nd ow j r q1
        have wrs:∀(k:Nat) (r':R),rs[k]? = some r'→(Mn r' r→k<j→listed.getD k false=true)∧(Mn r r'→j<k→¬listed.getD k false=true):=by
          intro k r' hk
          have hkm:k<m:=by rw [←D.rl];exact (aC.1 hk).1
          have hks:k<ops.size:=by have:=D.ml;omega
          obtain ⟨bk,hbk,_⟩:=D.cl k _ (aN hks)
          exact ⟨λhc hlt=>hready k (D.cf k j r' r b hk q1 hb hlt hc),λhc hlt hlk=>hnl (hI.2.1 k bk hlk hbk j (D.cf j k r r' bk q1 hk hbk hlt hc))⟩
        have hfoot:∀id,(id∈r.rd∨id∈kJ r)→hL[id]? = acj[id]?:=by
          intro id hid
          have c1:∀(k:Nat) (r':R) (w:Nat×B),rs[k]? = some r'→w∈r'.ws→w.1=id→Mn r' r:=λk r' w _ hw he=>.inl ⟨id,bJ.2 ⟨w,hw,he⟩,hid⟩
          have c2:∀(k:Nat) (r':R) (w:Nat×B),rs[k]? = some r'→w∈r'.ws→w.1=id→Mn r r':=λk r' w _ hw he=>by
            have hm:id∈kJ r':=bJ.2 ⟨w,hw,he⟩
            rcases hid with hid | hid
            · exact .inr (.inl ⟨id,hid,hm⟩)
            · exact .inl ⟨id,hid,.inr hm⟩
          have below:∀k,listed.getD k false=true→∀(r':R) (w:Nat×B),rs[k]? = some r'→w∈r'.ws→w.1=id→k<j:=by
            intro k hk r' w hr' hw he
            rcases eB k j with h1 | h1 | h1
            · exact h1
            · subst h1;exact absurd hk hnl
            · exact absurd hk ((wrs k r' hr').2 (c2 k r' w hr' hw he) h1)
          rcases g3.2 id with ⟨k,r',w,a1,a2,a3,a4,a5,a6⟩ | ⟨a1,a2⟩<;>rcases q4.2 id with ⟨k',r2,w',b1,b2,b3,b4,b5,b6⟩ | ⟨b1,b2⟩
          · have hkj:=below k a1 r' w a2 a3 a4
            have hk':=(wrs k' r2 b2).1 (c1 k' r2 w' b2 b3 b4) b1
            rcases eB k k' with e | e | e
            · exact absurd b4 (a6 k' r2 w' hk' e b2 b3)
            · subst e
              rw [a2] at b2;cases b2
              rw [a5,b5,Bj (D.nd ow k r' a2) a3 b3 (a4.trans b4.symm)]
            · exact absurd a4 (b6 k r' w hkj e a2 a3)
          · exact absurd a4 (b1 k r' w (below k a1 r' w a2 a3 a4) a2 a3)
          · exact absurd b4 (a1 k' r2 w' ((wrs k' r2 b2).1 (c1 k' r2 w' b2 b3 b4) b1) b2 b3)
          · rw [a2,b2]
        have hkl:∀id∈r.kl,(∀s,id∉eT (gs tL s))∧∀(u:Nat) (x:B),hL[u]? = some x→u∉r.rd→id∉eZ x:=by
          intro id hid
          obtain ⟨k1,k2,k3⟩:=D.kc j r q1 id hid
          refine ⟨λs=>?_,λu x hx hu=>?_⟩
          · rcases g2 s with ⟨k,y,a1,a2,a3,a4⟩ | ⟨_,a2⟩
            · rw [aB,aG] at a4
              obtain ⟨r',hr',he⟩:=a4
              rw [←he]
              rcases eB k j with h1 | h1 | h1
              · exact (k3 k r' y h1 hr' a2).1 s a3
              · subst h1;exact absurd a1 hnl
              · exact λhm=>(wrs k r' hr').2 (.inr (.inr ⟨id,hid,fW _ hm⟩)) h1 a1
            · rw [a2];exact k1 s
          · rcases g3.2 u with ⟨k,r',w,a1,a2,a3,a4,a5,_⟩ | ⟨_,a2⟩
            · rw [hx] at a5
              cases a5
              have hyk:=aA (show k<is.length by rw [D.il];have:=D.ml;have:=g1 k a1;omega)
              rcases eB k j with h1 | h1 | h1
              · exact (k3 k r' _ h1 a2 hyk).2 w a3 (by rw [a4];exact hu)
              · subst h1;exact absurd a1 hnl
              · exact λhm=>(wrs k r' a2).2 (.inr (.inr ⟨id,hid,fI _ (aO.2 ⟨w,a3,hm⟩)⟩)) h1 a1
            · rw [a2] at hx
              exact k2 u x hx hu
        have hlen:hL.length=acj.length:=by rw [g3.1,q4.1]
        have hwl:∀w∈r.ws,w.1<hL.length:=λw hw=>by rw [hlen];exact (ze.ws ow hq).2 w hw
        obtain ⟨w1,w2,w3⟩:=zp hnd hwl
        refine Sf ow hC hlo hE hci hq hlen hfoot hkl λa' w' G' ρ' hC'=>ih _ _ _ hcnt ⟨hsz,jb,.inl ⟨λk hk=>?_,G',ρ',_,_,hC',λs=>?_,by rw [w1,g3.1],λu=>?_⟩⟩
        · rcases (hset k).1 hk with rfl | hk
          · exact hjm.1
          · exact g1 k hk
        · rw [nv]
          by_cases hd:i.d=some s
          · rw [ζ hd]
            exact .inl ⟨j,i,(hset j).2 (.inl rfl),hi,hd,by rw [aB,q1];rfl⟩
          · rw [η hd]
            rcases g2 s with ⟨k,y,a1,a2,a3,a4⟩ | ⟨a1,a2⟩
            · exact .inl ⟨k,y,(hset k).2 (.inr a1),a2,a3,a4⟩
            · refine .inr ⟨λk y hk hy=>?_,a2⟩
              rcases (hset k).1 hk with rfl | hk
              · rw [hi] at hy;cases hy;exact hd
              · exact a1 k y hk hy
        · by_cases hu:∃w∈r.ws,w.1=u
          · obtain ⟨w0,hw0,rfl⟩:=hu
            refine .inl ⟨j,r,w0,(hset j).2 (.inl rfl),q1,hw0,rfl,w2 w0 hw0,λk' r2 w2' hk' hlt hr2 hw2 he=>?_⟩
            rcases (hset k').1 hk' with rfl | hk'
            · omega
            · exact (wrs k' r2 hr2).2 (.inl ⟨w0.1,bJ.2 ⟨w0,hw0,rfl⟩,.inr (bJ.2 ⟨w2',hw2,he⟩)⟩) hlt hk'
          · have hu:∀w∈r.ws,w.1≠u:=λw hw e=>hu ⟨w,hw,e⟩
            rw [w3 u hu]
            rcases g3.2 u with ⟨k,r',w,a1,a2,a3,a4,a5,a6⟩ | ⟨a1,a2⟩
            · refine .inl ⟨k,r',w,(hset k).2 (.inr a1),a2,a3,a4,a5,λk' r2 w2' hk' hlt hr2 hw2=>?_⟩
              rcases (hset k').1 hk' with rfl | hk'
              · rw [q1] at hr2;cases hr2;exact hu w2' hw2
              · exact a6 k' r2 w2' hk' hlt hr2 hw2
            · refine .inr ⟨λk r' w hk hr' hw=>?_,a2⟩
              rcases (hset k).1 hk with rfl | hk
              · rw [q1] at hr';cases hr';exact hu w hw
              · exact a1 k r' w hk hr' hw
      · exact absurd ((k3 j).2 (by omega)) hnl
    · have hall:∀i,i<m→listed.getD i false=true:=by
        rcases hI.2.2 with ⟨g1,_⟩ | ⟨k,k1,k2,k3,_⟩
        · have hmj:m≤j:=by
            rcases de j m with h | h
            · exact absurd ⟨h,g1⟩ hjm
            · exact h
          exact λi hi=>hready i (D.fu j b hmj hb i (by omega))
        · exact λi hi=>(k3 i).2 (by omega)
      obtain ⟨k,k1,k2,k3,G,ρ,t',h',hC,hk⟩:=turn listed a w hI hall
      have hjk:j=k:=by
        have h1:k≤j:=by
          rcases de j k with h | h
          · exact absurd ((k3 j).2 h) hnl
          · exact h
        rcases de k j with h2 | h2
        · have:=(k3 k).1 (hready k (D.fu j b (by omega) hb k h2));omega
        · omega
      subst hjk
      have hdrop:is.drop j=i :: is.drop (j+1):=by
        have hlt:j<is.length:=by rw [D.il];exact hjs
        rw [bO hlt]
        rw [aA hlt] at hi
        rw [aq hi]
      rw [hdrop] at hk
      exact rp ow hC hci hk (λa' w' G' ρ' t' h' hC' hk'=>ih _ _ _ hcnt ⟨hsz,jb,.inr ⟨j+1,by omega,by omega,λk=>by rw [hset,k3];omega,G',ρ',t',h',hC',hk'⟩⟩) PQ.qk
end
end
section
variable {P:Program} {E:gL} {n:Nat} {K:Ex→T→H→Prop} {Q:Exit→Act→World→Prop} {ops:Array Oper} {is:List I} {bs:List (List Nat)} {m:Nat} (ow:Nat→Bool)
theorem yA {G:Nat→Prop} {ρ:List Value} {t:T} {h:H} {a:Act} {w:World} {o:Oper} {bV:Act→World→Prop} (hC:ak E n G ρ t h a w) {i:I} (hi:oY P n ops o=some i) {ih:T→H→(Ex→T→H→Prop)→Prop} (hk:Bz (Sat P) ow i ih t h K)
  (hnx:∀(a':Act) (w':World) (G':Nat→Prop) (ρ':List Value) (t':T) (h':H),ak E n G' ρ' t' h' a' w'→ih t' h' K→bV a' w') (hp:PQ E n K Q) :
  if Region.wanted o (yielded ops a.tmps) then o.wp P a w bV Q else bV (a.put o.dst undef) w:=by
 obtain ⟨hx,hd,hlt,hg⟩:=nO hi;have run:∀{t:T},ak E n G ρ t h a w→bq (Sat P) ow i.o t h (λv t h=>ub i.d v t λt=>ih t h K) (λv t h=>K (.fg v) t h)→o.wp P a w bV Q:=by
  intro t hC hk;refine ou ow hC (λv' w' G' ρ' t' h' v hC' hv hk'=>?_) (λv' w' G' ρ' t' h' v hC' hv hk'=>hp a w' G' ρ' t' h' v v' hC' hv hk') hx hk;rw [fU,hd] at hk';exact hnx _ _ _ _ _ _ (hC'.fk o.dst hlt hv) hk'
 have pass:∀{t:T},ak E n G ρ t h a w→(ub i.d .ud t λt=>ih t h K)→bV (a.put o.dst undef) w:=by
  intro t hC hk;rw [fU,hd] at hk;exact hnx _ _ _ _ _ _ (hC.fk o.dst hlt A0) hk
 cases hgo:o.guard with
 |none=>
  rw [hgo] at hg;simp only at hg;simp only [Bz,hg] at hk;rw [ζ (by simp [Region.wanted,hgo])];exact run hC hk
 |some p=>
  obtain ⟨j,x⟩:=p;rw [hgo] at hg;obtain ⟨d,hd1,hg⟩:=hg;simp only [Bz,hg] at hk;split at hk
  ·rename_i b hb;rw [mT hC hgo hd1 hb];have hC1:=hC.congr (xF hb);cases b<;>cases x<;>simp only [sp,δ,ε] at hk<;>simp only [BEq.rfl,if_true,cj,ψ,ξ,reduceCtorEq]
   ·exact run hC1 hk
   ·exact pass hC1 hk
   ·exact pass hC1 hk
   ·exact run hC1 hk
  ·rename_i hb;rw [qL hC hgo hd1 hb];exact pass hC hk
  ·exact hk.elim
theorem yY:∀{l r:List Nat},l.Nodup→(∀x∈l,x∈r)→l.length≤r.length
 |[],_,_,_=>ae _
 |x :: l,r,hn,h=>by
  obtain ⟨h1,h2⟩:=cm.1 hn;have hx:=h x (by simp);have:=yY (l:=l) (r:=r.erase x) h2 λy hy=>(List.mem_erase_of_ne (show y≠x from λe=>h1 (by rw [←e];exact hy))).2 (h y (cM _ hy));rw [List.length_erase_of_mem hx] at this;have:=List.length_pos_of_mem hx;rw [aX];omega
structure U9 (P:Program) (n:Nat) (ops:Array Oper) (is:List I) (bs:List (List Nat)) (m:Nat):Prop where
  il:is.length=ops.size
  bl:bs.length=ops.size
  ml:m≤ops.size
  ci:∀(j:Nat) (o:Oper),ops[j]? = some o→∃i,is[j]? = some i∧oY P n ops o=some i
  cl:∀(j:Nat) (o:Oper),ops[j]? = some o→∃b,bs[j]? = some b∧(∀k∈pD o,k∈b)∧∀k∈b,k∈pD o∨∃k'∈pD o,∃b':List Nat,bs[k']? = some b'∧k∈b'
  lt:∀(j:Nat) (b:List Nat),bs[j]? = some b→∀k∈b,k<j
  fu:∀(j:Nat) (b:List Nat),m≤j→bs[j]? = some b→∀i,i<j→i∈b
theorem zC (D:U9 P n ops is bs m) {listed:Array Bool} (hr:Region.ready .any ops listed = []) (hs:listed.size=ops.size):∀j,j<ops.size→listed.getD j false=true:=by
 intro j
 induction j using Nat.strongRecOn with
 |_ j ih=>
  intro hj
  by_cases hl:listed.getD j false=true
  ·exact hl
  ·exfalso;have:j∈Region.ready .any ops listed:=by
    rw [mem_ready];refine ⟨?_,ops[j],aN hj,λe he hb=>?_⟩
    ·have hjl:j<listed.size:=by omega
     simpa [hjl] using hl
    ·obtain ⟨b,h1,h2,_⟩:=D.cl j _ (aN hj);have:=D.lt j b h1 e.on (h2 _ (gB.2 ⟨e,he,hb,rfl⟩));exact ih _ this (by omega)
   rw [hr] at this;cases this
def Rk (E:gL) (n:Nat) (K:Ex→T→H→Prop) (q:List (I×List Nat)) (s:List I) (is:List I) (bs:List (List Nat)) (m:Nat) (P:Program) (listed:Array Bool) (a:Act) (w:World):Prop:=
  (∀(j:Nat) (b:List Nat),listed.getD j false=true→bs[j]? = some b→∀k∈b,listed.getD k false=true) ∧
  ((∃ (done : List Nat) (k : Nat) (G : Nat → Prop) (ρ : List Value) (t : T) (h : H), done.Nodup ∧ done.length + k = m ∧ (∀ j, listed.getD j false = true ↔ j ∈ done) ∧ (∀ j ∈ done, j < m) ∧ ak E n G ρ t h a w ∧ U5 (Sat P) ow q s k done t h K) ∨
   ∃(k:Nat) (G:Nat→Prop) (ρ:List Value) (t:T) (h:H),m≤k∧(∀j,listed.getD j false=true↔j<k)∧ak E n G ρ t h a w∧rx (Sat P) ow (is.drop k) t h K)
theorem R8 (D:U9 P n ops is bs m) {q:List (I×List Nat)} (hq:q=(is.zip bs).take m):∀(fuel:Nat) (listed:Array Bool) (a:Act) (w:World),listed.size=ops.size→listed.toList.count false≤fuel →
  Rk ow E n K q (is.drop m) is bs m P listed a w→wpAny P .any ops (QK E n K) fuel listed a w:=by
 have hil:=D.il;have hbl:=D.bl;have hml:=D.ml;have hqg:∀(j:Nat) (x:I) (b:List Nat),j<m→is[j]? = some x→bs[j]? = some b→q[j]? = some (x,b):=λj x b hj hx hb=>by
  rw [hq,ao,ζ hj,List.getElem?_zip_eq_some];exact ⟨hx,hb⟩
 have hql:q.length=m:=by rw [hq];simp;omega
 have turn:∀(listed:Array Bool) (a:Act) (w:World),Rk ow E n K q (is.drop m) is bs m P listed a w→(∀j,j<m→listed.getD j false=true) →
   ∃(k:Nat) (G:Nat→Prop) (ρ:List Value) (t:T) (h:H),m≤k∧(∀j,listed.getD j false=true↔j<k)∧ak E n G ρ t h a w∧rx (Sat P) ow (is.drop k) t h K:=by
  intro listed a w ⟨_,h3⟩ hall;rcases h3 with ⟨done,k,G,ρ,t,h,d1,d2,d3,d4,hC,hk⟩ | h3
  ·have hk0:k=0:=by
    have h1:(List.range m).length≤done.length:=yY qF λj hj=>(d3 j).1 (hall j (cn.1 hj));rw [kD] at h1;omega
   subst hk0;exact ⟨m,G,ρ,t,h,aM _,λj=>⟨λhj=>d4 j ((d3 j).1 hj),hall j⟩,hC,hk⟩
  ·exact h3
 have fin:∀(listed:Array Bool) (a:Act) (w:World),listed.size=ops.size→Rk ow E n K q (is.drop m) is bs m P listed a w→Region.ready .any ops listed = []→QK E n K .normal a w:=by
  intro listed a w hs hI hr;have hall:=zC D hr hs;obtain ⟨k,G,ρ,t',h',k1,k3,hC,hk⟩:=turn listed a w hI (λj hj=>hall j (by omega));have hkk:ops.size≤k:=by
   rcases de k ops.size with h | h
   ·have:=(k3 k).1 (hall k h);omega
   ·exact h
  rw [et (by omega)] at hk;exact ⟨G,ρ,t',h',hC,hk⟩
 intro fuel
 induction fuel with
 |zero=>
  intro listed a w hs hc hI;have hall:∀j,j<ops.size→listed.getD j false=true:=λj hj=>by
   have hj':j<listed.size:=by omega
   have h0:listed.toList.count false=0:=by omega
   rw [List.count_eq_zero] at h0;cases hv:listed[j] with
   |true=>simp [hj',hv]
   |false=>exact absurd (by rw [fY,←hv];exact Array.getElem_mem hj') h0
  have hr:Region.ready .any ops listed = []:=by
   rw [ko];intro j hj;obtain ⟨h1,o,h2,_⟩:=mem_ready.1 hj;have h3:=hall j (aQ.1 h2).1;have hj':=iw h3;simp [hj'] at h1 h3;rw [h3] at h1;cases h1
  exact ⟨hr,fin listed a w hs hI hr⟩
 |succ fuel ih=>
  intro listed a w hs hc hI;refine ⟨fin listed a w hs hI,λj hj=>?_⟩;obtain ⟨hun,o,ho,hdep⟩:=mem_ready.1 hj;have hjs:j<ops.size:=(aQ.1 ho).1;have hjl:j<listed.size:=by omega
  have hnl:¬listed.getD j false=true:=by simpa [hjl] using hun
  obtain ⟨b,hb,hb1,hb2⟩:=D.cl j o ho;obtain ⟨i,hi,hci⟩:=D.ci j o ho;have hready:∀k∈b,listed.getD k false=true:=λk hk=>by
   rcases hb2 k hk with h1 | ⟨k',h1,b',h2,h3⟩
   ·obtain ⟨e,e1,e2,rfl⟩:=gB.1 h1;exact hdep e e1 e2
   ·obtain ⟨e,e1,e2,rfl⟩:=gB.1 h1;exact hI.1 _ b' (hdep e e1 e2) h2 k h3
  have hset:∀k,(listed.setIfInBounds j true).getD k false=true↔k=j∨listed.getD k false=true:=λk=>by
   by_cases hkj:k=j
   ·subst hkj;simp [hjl]
   ·rw [getD_set_ne false (k_ hkj)];simp [hkj]
  have jb:∀(j':Nat) (b:List Nat),(listed.setIfInBounds j true).getD j' false=true→bs[j']? = some b→∀k∈b,(listed.setIfInBounds j true).getD k false=true:=by
   intro j' b' h1 h2 k hk;rw [hset] at h1 ⊢;rcases h1 with rfl | h1
   ·rw [hb] at h2;cases h2;exact .inr (hready k hk)
   ·exact .inr (hI.1 j' b' h1 h2 k hk)
  have hcnt:(listed.setIfInBounds j true).toList.count false≤fuel:=by have:=count_set hun;omega
  have hsz:(listed.setIfInBounds j true).size=ops.size:=by simpa using hs
  have go:(if Region.wanted o (yielded ops a.tmps) then o.wp P a w (wpAny P .any ops (QK E n K) fuel (listed.setIfInBounds j true)) (QK E n K) else wpAny P .any ops (QK E n K) fuel (listed.setIfInBounds j true) (a.put o.dst undef) w) →
    wpOp P ops (QK E n K) j (wpAny P .any ops (QK E n K) fuel (listed.setIfInBounds j true)) a w:=by
   intro hg;unfold wpOp;simp only [ho];split
   ·rename_i hw;rw [ζ hw] at hg;exact .inl hg
   ·rename_i hw;rw [η hw] at hg;exact hg
  refine go ?_
  by_cases hjm:j<m
  ·rcases hI.2 with ⟨done,k,G,ρ,t,h,d1,d2,d3,d4,hC,hk⟩ | ⟨k,G,ρ,t,h,k1,k3,_⟩
   ·have hjd:j∉done:=λhd=>hnl ((d3 j).2 hd);have hk0:k≠0:=by
     intro e;have h1:(j :: done).length≤(List.range m).length:=yY (cm.2 ⟨hjd,d1⟩) λx hx=>by
      rw [cn];rcases af.1 hx with rfl | hx
      ·exact hjm
      ·exact d4 x hx
     rw [kD,aX] at h1;omega
    obtain ⟨k,rfl⟩:∃k',k=k'+1:=⟨k - 1,by omega⟩
    rw [Jr] at hk;have hqj:=hqg j i b hjm hi hb;have hmem:j∈sq q done:=by
     unfold sq;rw [dh,cn];refine ⟨by omega,?_⟩;rw [get?_eq,hqj];simp only [aP,dF,aS];refine ⟨?_,λx hx=>cK.2 ((d3 x).1 (hready x hx))⟩;cases hh:has done j with
     |false=>rfl
     |true=>exact absurd (cK.1 hh) hjd
    have hk2:=uS hk j hmem;rw [get?_eq,hqj] at hk2;exact yA ow hC hci hk2 (λa' w' G' ρ' t' h' hC' hk'=>ih _ _ _ hsz hcnt ⟨jb,.inl ⟨j :: done,k,G',ρ',t',h',cm.2 ⟨hjd,d1⟩,by rw [aX];omega,λx=>by rw [hset,af,d3],λx hx=>by
     rcases af.1 hx with rfl | hx
     ·exact hjm
     ·exact d4 x hx,hC',hk'⟩⟩) PQ.qk
   ·exact absurd ((k3 j).2 (by omega)) hnl
  ·have hall:∀i,i<m→listed.getD i false=true:=λi hi=>hready i (D.fu j b (by omega) hb i (by omega));obtain ⟨k,G,ρ,t',h',k1,k3,hC,hk⟩:=turn listed a w hI hall;have hjk:j=k:=by
    have h1:k≤j:=by
     rcases de j k with h | h
     ·exact absurd ((k3 j).2 h) hnl
     ·exact h
    rcases de k j with h2 | h2
    ·have:=(k3 k).1 (hready k (D.fu j b (by omega) hb k h2));omega
    ·omega
   subst hjk;have hdrop:is.drop j=i :: is.drop (j+1):=by
    have hlt:j<is.length:=by omega
    rw [bO hlt];rw [aA hlt] at hi;rw [aq hi]
   rw [hdrop] at hk;exact rp ow hC hci hk (λa' w' G' ρ' t' h' hC' hk'=>ih _ _ _ hsz hcnt ⟨jb,.inr ⟨j+1,G',ρ',t',h',by omega,λk=>by rw [hset,k3];omega,hC',hk'⟩⟩) PQ.qk
end
theorem Fw.fn (r:Option Nat) (f:FuncId):(Fw r).fn f:=trivial
theorem Fw.room (r:Option Nat) (n:Nat):(Fw r).room n:=λ_ h=>by simp [Fw,Fence.wide] at h
theorem Fw.depth (r:Option Nat) (N:Nat):(Fw r).depth.isSome=true→1≤N:=λh=>by simp [Fw,Fence.wide] at h
section
variable {P:Program} {ops:Array Oper} {Q:Exit→Act→World→Prop} {a:Act} {w:World} {o:Oper} {bV:Act→World→Prop} {r:Option Nat} {N:Nat}
theorem Q3 (h:Ae o=true):∀c,o.op≠.defer c:=by
 intro c hc;unfold Ae at h;rw [hc] at h;cases h
theorem uJ {f:FuncId} {args:Array Value} {R:Ending→World→Prop} (h:Calls P f args w R):CallsIn (Fw r) N P f args w R:=
 ⟨trivial,λcs _=>let ⟨e,w',fr,r,s,x⟩:=h cs;⟨e,w',fr,r,comesIn_wide.2 s,x⟩⟩
theorem tg {f:FuncId} {args:Array Value} {R:Ending→World→Prop} (h:CallsIn (Fw r) N P f args w R):Calls P f args w R:=
 λcs=>let ⟨e,w',fr,q,s,x⟩:=h.2 cs (Fw.room _ _);⟨e,w',fr,q,comesIn_wide.1 s,x⟩
theorem LK {row:String} {args:Array Value} {R:Value→World→Prop} (h:Rows P row args w R):RowsIn (Fw r) N P row args w R:=
 λc cs _=>let ⟨v,w',q,s⟩:=h c cs;⟨v,w',q,stepsIn_wide.2 s⟩
theorem TS (hd:Ae o=true) (h:o.wp P a w bV Q):o.wpIn (Fw r) N P a w bV Q:=by
 unfold Oper.wpIn;refine ⟨λ_ _=>trivial,?_⟩;rw [Oper.semAt_eq _ _ _ (Q3 hd)];unfold Oper.wp at h;generalize (execOp a.eval o).run P w=res at *;cases res with
 |ok x w'=>
  cases x<;>simp only [Oper.upon,Oper.uponIn] at h ⊢<;>first
   |exact h
   |exact ⟨Fw.depth _ _,uJ h⟩
   |exact ⟨Fw.depth _ _,LK h⟩
   |exact h.elim
 |halt x w'=>cases x<;>simp only [Oper.upon,Oper.uponIn] at h ⊢<;>exact h
theorem Bk (hl:¬LetsOut Q) {i:Nat} (hd:∀o,ops[i]? = some o→Ae o=true) {K K':Act→World→Prop} (hK:∀a w,K a w→K' a w) (h:wpOp P ops Q i K a w):wpOpIn (Fw r) N P ops Q i K' a w:=by
 unfold wpOp at h;unfold wpOpIn;split
 ·rename_i he;rw [he] at h;exact hK _ _ h
 ·rename_i o he;rw [he] at h;simp only at h;split
  ·rename_i hw;rw [ζ hw] at h;rcases h with h | ⟨_,h⟩
   ·exact TS (hd o he) (Oper.wp_mono hK h)
   ·exact absurd h hl
  ·rename_i hw;rw [η hw] at h;exact ⟨λ_ _=>trivial,hK _ _ h⟩
theorem FY (hl:¬LetsOut Q) (hd:∀(i:Nat) o,ops[i]? = some o→Ae o=true):∀(l:List Nat) (a:Act) (w:World),wpOps P ops Q l a w→wpOpsIn (Fw r) N P ops Q l a w:=by
 intro l
 induction l with
 |nil=>exact λa w h=>h
 |cons i l ih=>
  intro a w h;rw [wpOps_cons] at h;rw [wpOpsIn_cons];exact Bk hl (hd i) ih h
theorem FZ (hl:¬LetsOut Q) (hd:∀(i:Nat) o,ops[i]? = some o→Ae o=true) {md:Region.Mode}:∀(fuel:Nat) (ls:Array Bool) (a:Act) (w:World),wpAny P md ops Q fuel ls a w→wpAnyIn (Fw r) N P md ops Q fuel ls a w:=by
 intro fuel
 induction fuel with
 |zero=>exact λls a w h=>h
 |succ fuel ih=>
  intro ls a w h;exact ⟨h.1,λi hi=>Bk hl (hd i) (ih _) (h.2 i hi)⟩
theorem Dt {id:Nat} (hl:¬LetsOut Q) (hd:∀(i:Nat) o,ops[i]? = some o→Ae o=true) (h:wpList P ops Q ops.toList a w):(Code.region id ops false).wpIn (Fw r) N P Q a w:=by
 have e:=wpOps_eq_wpList (P:=P) (Q:=Q) (ops:=ops) ops.toList 0 (λj=>by simp);refine wpIn_region (FY hl hd _ _ _ ?_);rw [List.range_eq_range',←dW,e];exact h
theorem kb {id:Nat} (hl:¬LetsOut Q) (hd:∀(i:Nat) o,ops[i]? = some o→Ae o=true) (hm:P.follows .mixedOrders=true)
  (h:wpAny P .any ops Q ops.size (Array.replicate ops.size false) a { w with drawn:=w.drawn+1 }):(Code.region id ops true).wpIn (Fw r) N P Q a w:=
 wpIn_region_any hm (FZ hl hd _ _ _ _ h)
theorem sA (h:ops.toList.all Ae=true):∀(i:Nat) o,ops[i]? = some o→Ae o=true:=λ_ o ho=>
 aS.1 h o (fY.2 (Array.mem_of_getElem? ho))
theorem CJ {E:gL} {n:Nat} {K:Ex→T→H→Prop}:¬LetsOut (QK E n K):=λ⟨_,_,_,_,_,_,_,h⟩=>h.elim
theorem zq {A:Type} {c:Code} (I:A→Act→World→Prop) (μ:A→Nat) (x:A) (h₀:I x a w)
  (round:∀x a w,I x a w→c.wpIn (Fw r) N P (Exit.then (λa' w'=>∃y,I y a' w'∧μ y<μ x) Q) a w):(Code.loop c).wpIn (Fw r) N P Q a w:=by
 intro b k cs hro hb hr;have key:∀(n:Nat) (x:A) (a:Act) (w:World),μ x=n→I x a w →
   ∃e a' w',Q e a' w'∧ArrivesIn (Machine.fenced P (Fw r)) P (lone (b.atR a (.code c :: .inLoop c :: k)) cs w) b k cs e a' w':=by
  intro n
  induction n using Nat.strongRecOn with
  |_ n ih=>
   intro x a w hn hI;obtain ⟨e,a₁,w₁,hq,harr⟩:=round x a w hI b (.inLoop c :: k) cs hro hb hr;cases e with
   |normal=>
    obtain ⟨y,hI₁,hlt⟩:=hq;obtain ⟨e₂,a₂,w₂,hq₂,harr₂⟩:=ih (μ y) (hn ▸ hlt) y a₁ w₁ rfl hI₁;exact ⟨e₂,a₂,w₂,hq₂,.of_steps (StepsIn.trans harr (.one (fenced_calm hb hr rfl) stepR_inLoop)) harr₂⟩
   |exit id=>exact ⟨_,a₁,w₁,hq,.pass (x:=.inLoop c) rfl (λ_ _=>.inl (by simp)) harr⟩
   |goto l=>exact ⟨_,a₁,w₁,hq,.pass (x:=.inLoop c) rfl (λ_ _=>.inl (by simp)) harr⟩
   |ret=>exact ⟨_,a₁,w₁,hq,.pass (x:=.inLoop c) rfl (λ_ _=>.inl (by simp)) harr⟩
   |panic ch=>exact ⟨_,a₁,w₁,hq,.pass (x:=.inLoop c) rfl (λ_ _=>.inl (by simp)) harr⟩
   |outgrown=>exact ⟨_,a₁,w₁,hq,.pass (x:=.inLoop c) rfl (λ_ _=>.inl (by simp)) harr⟩
 obtain ⟨e,a',w',hq,harr⟩:=key _ x a w rfl h₀;exact ⟨e,a',w',hq,.of_steps (.one (fenced_calm hb hr rfl) stepR_loop) harr⟩
end
end Go.Vx
