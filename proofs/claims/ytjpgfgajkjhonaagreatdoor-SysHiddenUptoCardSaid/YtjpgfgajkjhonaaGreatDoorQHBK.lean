/- Lemmas. Conditions: none. -/
import Derived.Shelf.SlMaps.Clone
import Derived.Test.YtjpgfgajkjhonaaGreatDoorQHBJ
set_option maxHeartbeats 40000000
namespace Go.Proofs.YtjpgfgajkjhonaaGreatDoor
open Go.Vx
set_option maxRecDepth 100000
def c117:C:=.seq (.gu [⟨some 4,.mv (.k (.d (.bool false))),none⟩]) (.seq (.seq (.gu [⟨some 6,.mv (.s 0),none⟩,⟨some 7,.ln (.s 6),none⟩,⟨some 8,.mv (.s 1),none⟩,⟨some 9,.ln (.s 8),none⟩,⟨some 10,.bin .neq (.s 7) (.s 9),none⟩]) (.cond (.s 10) (.seq (.gu [⟨some 4,.mv (.k (.d (.bool false))),none⟩]) (.ret)) (.skip))) (.seq (.seq (.gu [⟨some 11,.mv (.s 0),none⟩,⟨some 12,.ln (.s 11),none⟩,⟨some 13,.mv (.k (.d (.int .i64 0))),none⟩]) (.block 0 (.loop (.seq (.gu [⟨some 14,.bin .lss (.s 13) (.s 12),none⟩]) (.seq (.cond (.s 14) (.skip) (.exit 0)) (.seq (.block 1 (.seq (.gu [⟨some 15,.mv (.s 13),none⟩,⟨some 5,.mv (.s 15),none⟩]) (.seq (.AM [(⟨some 16,.mv (.s 0),none⟩,[]),(⟨some 17,.mv (.s 5),none⟩,[]),(⟨some 18,.ia (.s 16) (.s 17) 7,none⟩,[0,1]),(⟨some 19,.ld (.s 18) (some 7),none⟩,[2,0,1]),(⟨some 20,.mv (.s 1),none⟩,[]),(⟨some 21,.mv (.s 5),none⟩,[]),(⟨some 22,.ia (.s 20) (.s 21) 7,none⟩,[4,5]),(⟨some 23,.ld (.s 22) (some 7),none⟩,[6,4,5])] [⟨some 24,.eq true true [2,1,0,0,2,2,2] (.s 19) (.s 23),none⟩]) (.cond (.s 24) (.seq (.gu [⟨some 4,.mv (.k (.d (.bool false))),none⟩]) (.ret)) (.skip))))) (.gu [⟨some 25,.bin .add (.s 13) (.k (.d (.int .i64 1))),none⟩,⟨some 13,.mv (.s 25),none⟩]))))))) (.seq (.gu [⟨some 4,.mv (.k (.d (.bool true))),none⟩]) (.ret))))
noncomputable def s117:=sf (N:=117) (n:=26) (c:=c117) (r:=[.s 4]) Tryz.f117
def c74:C:=.seq (.gu [⟨some 2,.bx (.s 0),none⟩,⟨some 3,.bx (.s 1),none⟩,⟨some 4,.mv (.k (.d (.bool false))),none⟩]) (.seq (.gu [⟨some 5,.fa (.s 2) 0,none⟩,⟨some 6,.ld (.s 5) none,none⟩,⟨some 7,.fa (.s 3) 0,none⟩,⟨some 8,.ld (.s 7) none,none⟩,⟨some 9,.eq false false [1] (.s 6) (.s 8),none⟩,⟨some 10,.mv (.s 9),none⟩,⟨some 11,.fa (.s 2) 1,some (10,true)⟩,⟨some 12,.ld (.s 11) (some 5),some (10,true)⟩,⟨some 13,.fa (.s 3) 1,some (10,true)⟩,⟨some 14,.ld (.s 13) (some 5),some (10,true)⟩,⟨some 15,.eq false true [0,0,2,2,2] (.s 12) (.s 14),some (10,true)⟩,⟨some 16,.pk (.s 10) (.s 15) (.k (.d (.bool false))),none⟩,⟨some 17,.mv (.s 16),none⟩,⟨some 18,.fa (.s 2) 6,some (17,true)⟩,⟨some 19,.ld (.s 18) none,some (17,true)⟩,⟨some 20,.fa (.s 3) 6,some (17,true)⟩,⟨some 21,.ld (.s 20) none,some (17,true)⟩,⟨some 22,.cf 117 [.s 19,.s 21],some (17,true)⟩,⟨some 23,.pk (.s 17) (.s 22) (.k (.d (.bool false))),none⟩,⟨some 4,.mv (.s 23),none⟩]) (.ret))
noncomputable def s74:=sf (N:=74) (n:=24) (c:=c74) (r:=[.s 4]) Tryz.f74
theorem J3 (q:List Wt):Z0 117 [.d (.sl 7 (q.map dX)),.d (.sl 7 (q.map dX))] (.d (.bool true)):=by
 have hl:(q.map dX).length=q.length:=aI _;refine s117.go (keep:=false) rfl ?_
 repeat' ((conv=>whnf);first | exact zf | refine zm ?_ | refine zt ?_ | refine zu ?_ | intro _)
 conv=>whnf
 refine bN [(0,.d (.sl 7 (q.map dX))),(1,.d (.sl 7 (q.map dX))),(12,.d (.int .i64 (q.map dX).length))] (λi:Nat=>i≤q.length) (λi=>[(13,.d (.int .i64 i))]) (λ_=>[]) (λi=>q.length - i) 0 (ah _) ?_ ?_ ?_ (λi hi=>?_)
 ·exact zzz
 ·exact zzz
 ·exact rfl
 by_cases hlt:i<q.length
 ·have tx:decide ((i:Int)<((q.map dX).length:Int))=true:=by simp;omega
  have hr:(q.map dX)[(i:Int).toNat]? = some (dX q[i]):=by rw [show (i:Int).toNat=i by omega,aC,aB hlt];rfl
  repeat' ((conv=>whnf);first | exact zf | refine zm ?_ | refine (ft tx ?_) | refine ⟨_,⟨by omega,hr,rfl⟩,?_⟩ | refine zt ?_ | refine zu ?_ | intro _)
  exact ⟨i+1,hlt,(by show q.length - (i+1)<q.length - i;omega),zzz,zzz,rfl⟩
 ·have tx:decide ((i:Int)<((q.map dX).length:Int))=false:=by simp;omega
  repeat' ((conv=>whnf);first | exact zf | refine zm ?_ | refine (ga tx ?_) | refine zt ?_ | refine zu ?_ | intro _)
theorem Pb (v:Vr):Z0 74 [xl v,xl v] (.d (.bool true)):=by
 have h:=J3 v.q;refine s74.go (keep:=false) rfl ?_
 exact zk1 h
theorem Mz (o:Ob):Z0 35 [fz o,fz o] (.d (.bool true)):=by
 have h:=Pb o.va;refine s35.go (keep:=false) rfl ?_
 repeat' ((conv=>whnf);first | exact zf | refine zm ?_ | refine zc h ?_ | refine zt ?_ | refine zu ?_ | intro _)
 exact cS (κ (λb=>V.d (D.bool b)) (beq_self_eq_true _))
abbrev z_:=List (List UInt8×Ob)
def found (th:z_):Prop:=∀(i:Nat) (p:List UInt8×Ob),th[i]? = some p→bI p.1 th=some (i,p.2)
theorem MV (th:z_) (hn:found th):Z1 63 [.mp 0,.mp 1,.d (.fn 35)] [.dm (iy th),.dm (iy th)] λout h=>out = .ret (.d (.bool true))∧h = [.dm (iy th),.dm (iy th)]:=by
 have hl:(iy th).length=th.length:=aI _;refine sh0 Tryz.f63 ?_
 repeat' ((conv=>whnf);first | exact zf | refine zm ?_ | refine zt ?_ | refine zu ?_ | intro _)
 rename_i r
 conv=>whnf
 refine bN [(0,.mp 0),(1,.mp 1),(2,.d (.fn 35)),(17,.it 0 r)] (λp:List Nat×Option Nat=>∀i∈p.1,i<th.length) (λ_=>[]) (λp=>[.di (iy th) r p,.dm (iy th)]) (λp=>p.1.length) (List.range (iy th).length,none) (λi hi=>by rw [cV] at hi;omega) ?_ ?_ ?_ (λp hi=>?_)
 ·exact zzz
 ·exact zzz
 ·exact rfl
 obtain ⟨left,cur⟩:=p;dsimp only at hi
 repeat' ((conv=>whnf);first | exact zf | refine zm ?_ | refine zt ?_ | refine zu ?_ | intro _)
 refine ⟨λh0=>?_,λi hmem=>?_⟩
 ·subst h0
  exact zk0
 ·have hlt:=hi i hmem;have hrow:(iy th)[i]? = some (.str th[i].1,true,ek th[i].2):=by unfold iy;rw [aC,aB hlt];rfl
  have hf:=pJ th[i].1 th 0;rw [hn i th[i] (aB hlt)] at hf;have ha:=Mz th[i].2
  repeat' ((conv=>whnf);first | exact zf | refine zm ?_ | refine ⟨_,⟨rfl,hrow⟩,?_⟩ | refine ⟨_,hf,?_⟩ | refine zc ha ?_ | refine zt ?_ | refine zu ?_ | intro _)
  repeat' ((conv=>whnf);first | exact zf | refine zm ?_ | refine zc ha ?_ | refine zt ?_ | refine zu ?_ | intro _)
  exact ⟨(left.erase i,some i),λj hj=>hi j (List.mem_of_mem_erase hj),(by have:=List.length_erase_of_mem hmem;have:=List.length_pos_of_mem hmem;show (left.erase i).length<left.length;omega),zzz,zzz,rfl⟩
section
variable {m:Lb} {k:List UInt8×List UInt8} {es:List ME}
theorem yt (e:ME) (r:List ME):lS k (e :: r)=bif e.1==k then some 0 else (lS k r).map (· + 1):=by
 unfold lS;rw [gX];cases e.1==k<;>rfl
theorem Cj {e:ME} {r:List ME} (h:(e :: r).Pairwise λa b=>a.1≠b.1) (he:(e.1==k)=true):∀x∈r,(x.1==k)=false:=λx hx=>by
 have h1:=(gW.1 h).1 x hx;rw [beq_eq_false_iff_ne]
 rintro rfl
 exact h1 (by simpa using he)
theorem yq {v:Option (Option Nat×List (List D))}:∀{es:List ME} {i:Nat},(es.Pairwise λa b=>a.1≠b.1)→lS k es=some i→eX i v es=es.map λe=>bif e.1==k then (e.1,v) else e
 |[],i,_,h=>by cases h
 |e :: r,i,hn,h=>by
  rw [yt] at h;rw [cH];cases he:e.1==k with
  |true=>
   rw [he] at h;cases h;have hr:(r.map λe=>bif e.1==k then (e.1,v) else e)=r:=by
    conv=>rhs;rw [←List.map_id r]
    exact aj λx hx=>by rw [Cj hn he x hx];rfl
   rw [hr];rfl
  |false=>
   rw [he] at h;cases hj:lS k r with
   |none=>rw [hj] at h;cases h
   |some j=>
    rw [hj] at h;cases h;have:=yq (v:=v) (gW.1 hn).2 hj;rw [←this];rfl
theorem v_:∀{es:List ME} {i:Nat},(es.Pairwise λa b=>a.1≠b.1)→lS k es=some i→es.eraseIdx i=es.filter λe=> !(e.1==k)
 |[],i,_,h=>by cases h
 |e :: r,i,hn,h=>by
  rw [yt] at h;rw [ik];cases he:e.1==k with
  |true=>
   rw [he] at h;cases h;have hr:(r.filter λe=> !(e.1==k))=r:=jK.2 λx hx=>by rw [Cj hn he x hx];rfl
   rw [hr];rfl
  |false=>
   rw [he] at h;cases hj:lS k r with
   |none=>rw [hj] at h;cases h
   |some j=>
    rw [hj] at h;cases h;have:=v_ (gW.1 hn).2 hj;show e :: r.eraseIdx j=_;rw [this];rfl
theorem Lf {e:ME} (h:e∈es) (he:e.1=k):∃i,lS k es=some i:=by
 cases hm:lS k es with
 |some i=>exact ⟨i,rfl⟩
 |none=>
  have:=List.findIdx?_eq_none_iff.1 hm e h;rw [he] at this;simp at this
def AN (a b:Lb):Bool:=a.s==b.s&&a.i==b.i
theorem jg {a b:Lb}:AN a b=true↔a=b:=by
 unfold AN;rw [aP,ξ,ξ];constructor
 ·rintro ⟨h1,h2⟩
  cases a;cases b;cases h1;cases h2;rfl
 ·rintro rfl;exact ⟨rfl,rfl⟩
theorem Qa {a b:Lb} (h:a≠b):AN a b=false:=by
 cases e:AN a b with
 |false=>rfl
 |true=>exact absurd (jg.1 e) h
theorem zB (a:Lb):AN a a=true:=jg.2 rfl
abbrev Nm:=Lb×Option Nat×List (List Nat)
def lE (m:Lb) (dn:Lb→Bool) (bs:Lb→Option Nat) (nm:kW):List ME:=
 (nm.filter λp=> !dn p.1||ao p.1 m).map λp=>((p.1.s,p.1.i),bif dn p.1 then some (bs p.1,dM (p.2.2.map cR)) else none)
def rV (m:Lb) (dn:Lb→Bool) (nm:kW) (key:List UInt8):Bool:=nm.any λp=>dn p.1 && !ao p.1 m&&p.2.2.any λk=>cR k==key
def jk (m:Lb) (dn:Lb→Bool) (nm:kW) (th:z_):z_:=th.filter λq=> !rV m dn nm q.1
def more (dn:Lb→Bool) (l:Lb):Lb→Bool:=λx=>dn x||AN x l
theorem DE {dn:Lb→Bool} {bs:Lb→Option Nat} {nm:kW} (h:nm.Pairwise λa b=>a.1≠b.1):(lE m dn bs nm).Pairwise λa b=>a.1≠b.1:=by
 unfold lE;rw [kR];refine (h.filter _).imp λhab e=>hab ?_;rw [bW] at e;exact jg.1 (by unfold AN;rw [e.1,e.2,beq_self_eq_true,beq_self_eq_true];rfl)
theorem zK {dn:Lb→Bool} {bs:Lb→Option Nat} {nm:kW} {p:Nm} (hp:p∈nm) (hd:dn p.1=false):∃i,lS (p.1.s,p.1.i) (lE m dn bs nm)=some i:=
 Lf (bF.2 ⟨p,d_.2 ⟨hp,by rw [hd];rfl⟩,rfl⟩) rfl
theorem N8 {nm:kW} (h:nm.Pairwise λa b=>a.1≠b.1) {p q:Nm} (hp:p∈nm) (hq:q∈nm) (e:p.1=q.1):p=q:=by
 induction nm with
 |nil=>cases hp
 |cons x r ih=>
  rw [gW] at h;rcases a8.1 hp with rfl | h1<;>rcases a8.1 hq with rfl | h2
  ·rfl
  ·exact absurd e (h.1 _ h2)
  ·exact absurd e.symm (h.1 _ h1)
  ·exact ih h.2 h1 h2
theorem Cz {a b:Lb}:((a.s,a.i)==(b.s,b.i))=AN a b:=rfl
theorem JI {dn:Lb→Bool} {bs:Lb→Option Nat} {nm:kW} (h:nm.Pairwise λa b=>a.1≠b.1) {p:Nm} (hp:p∈nm) (hf:ao p.1 m=true) {i:Nat} {b:Option Nat} (hi:lS (p.1.s,p.1.i) (lE m dn bs nm)=some i) :
  eX i (some (b,dM (p.2.2.map cR))) (lE m dn bs nm)=lE m (more dn p.1) (λx=>bif AN x p.1 then b else bs x) nm:=by
 rw [yq (DE h) hi];unfold lE;rw [dK];have e:(nm.filter λq=> !dn q.1||ao q.1 m)=nm.filter λq=> !more dn p.1 q.1||ao q.1 m:=by
  refine dp λq hq=>?_;unfold more;cases hx:AN q.1 p.1 with
  |false=>rw [lK]
  |true=>rw [jg.1 hx,hf,me,me]
 rw [←e];refine aj λq hq=>?_;have hq:=(d_.1 hq).1;simp only [mU,Cz,more];cases hx:AN q.1 p.1 with
 |false=>simp
 |true=>
  have:=N8 h hq hp (jg.1 hx);subst this;simp
theorem JK {dn:Lb→Bool} {bs:Lb→Option Nat} {nm:kW} (h:nm.Pairwise λa b=>a.1≠b.1) {p:Nm} (hf:ao p.1 m=false) {i:Nat} (hi:lS (p.1.s,p.1.i) (lE m dn bs nm)=some i) :
  (lE m dn bs nm).eraseIdx i=lE m (more dn p.1) bs nm:=by
 rw [v_ (DE h) hi];unfold lE;rw [List.filter_map,List.filter_filter];have e:(nm.filter λq=>(((λe:ME=> !(e.1==(p.1.s,p.1.i))) ∘ λq:Nm=>((q.1.s,q.1.i),bif dn q.1 then some (bs q.1,dM (q.2.2.map cR)) else none)) q)&&(!dn q.1||ao q.1 m))=nm.filter λq=> !more dn p.1 q.1||ao q.1 m:=by
  refine dp λq hq=>?_;simp only [mU,Cz,more];cases hx:AN q.1 p.1 with
  |false=>simp
  |true=>rw [jg.1 hx,hf];simp
 rw [e];refine aj λq hq=>?_;have hq:=(d_.1 hq).2;simp only [more] at hq ⊢;cases hx:AN q.1 p.1 with
 |false=>rw [lK]
 |true=>rw [hx,jg.1 hx,hf,me] at hq;cases hq
theorem Es {dn:Lb→Bool} {nm:kW} {th:z_} {p:Nm} (hf:ao p.1 m=true):jk m (more dn p.1) nm th=jk m dn nm th:=by
 unfold jk;refine dp λq _=>?_;unfold rV;congr 2
 funext r
 unfold more;cases hx:AN r.1 p.1 with
 |false=>rw [lK]
 |true=>rw [jg.1 hx,hf];simp
theorem JG {dn:Lb→Bool} {nm:kW} {th:z_} (h:nm.Pairwise λa b=>a.1≠b.1) {p:Nm} (hp:p∈nm) (hf:ao p.1 m=false) :
  jk m (more dn p.1) nm th=(jk m dn nm th).filter λq=> !p.2.2.any λk=>cR k==q.1:=by
 unfold jk;rw [List.filter_filter];refine dp λq _=>?_;rw [←Bool.not_or,Bool.not_inj_iff];unfold rV;rw [eA,b_];constructor
 ·intro h0;obtain ⟨r,hr,h1⟩:=cw.1 h0;rw [aP,aP] at h1;obtain ⟨⟨h1,h2⟩,h3⟩:=h1;unfold more at h1;rw [b_] at h1;rcases h1 with h1 | h1
  ·exact .inr (cw.2 ⟨r,hr,by rw [h1,h2,h3];rfl⟩)
  ·have:=N8 h hr hp (jg.1 h1);subst this;exact .inl h3
 ·rintro (h1 | h0)
  ·exact cw.2 ⟨p,hp,by unfold more;rw [zB,hf,h1,me];rfl⟩
  ·obtain ⟨r,hr,h1⟩:=cw.1 h0;rw [aP,aP] at h1;obtain ⟨⟨h1,h2⟩,h3⟩:=h1;exact cw.2 ⟨r,hr,by unfold more;rw [h1,h2,h3];rfl⟩
theorem te {key:List UInt8}:∀{l:z_} {i:Nat} {o:Ob},(l.Pairwise λa b=>a.1≠b.1)→bI key l=some (i,o)→l.eraseIdx i=l.filter λq=> !(key==q.1)
 |[],_,_,_,h=>by cases h
 |x :: r,i,o,hn,h=>by
  have h':(if key=x.1 then some (0,x.2) else (bI key r).map λx=>(x.1+1,x.2))=some (i,o):=h;rw [gW] at hn;rw [ik]
  by_cases hk:key=x.1
  ·rw [ζ hk,aE,bW] at h';obtain ⟨rfl,_⟩:=h';have e:(r.filter λq=> !(key==q.1))=r:=jK.2 λq hq=>by
    have:=hn.1 q hq;rw [←hk] at this;rw [beq_eq_false_iff_ne.2 this];rfl
   rw [e,hk];simp
  ·rw [η hk] at h';cases hl:bI key r with
   |none=>rw [hl] at h';cases h'
   |some y=>
    obtain ⟨j,o'⟩:=y;rw [hl] at h';simp only [bA,aE,bW] at h';obtain ⟨rfl,rfl⟩:=h';rw [beq_eq_false_iff_ne.2 hk,←te hn.2 hl];rfl
theorem yy {key:List UInt8}:∀{l:z_},bI key l=none→(l.filter λq=> !(key==q.1))=l
 |[],_=>rfl
 |x :: r,h=>by
  have h':(if key=x.1 then some (0,x.2) else (bI key r).map λx=>(x.1+1,x.2))=none:=h
  by_cases hk:key=x.1
  ·rw [ζ hk] at h';cases h'
  ·rw [η hk] at h';cases hl:bI key r with
   |some y=>rw [hl] at h';cases h'
   |none=>rw [ik,beq_eq_false_iff_ne.2 hk,yy hl];rfl
theorem Jf {key:List UInt8} {l:z_} (hn:l.Pairwise λa b=>a.1≠b.1) (c:List UInt8→Bool) :
  ((bI key (l.filter λq=> !c q.1)=none)→(l.filter λq=> !c q.1)=l.filter λq=> !(c q.1||key==q.1)) ∧
  ∀i o,bI key (l.filter λq=> !c q.1)=some (i,o)→(l.filter λq=> !c q.1).eraseIdx i=l.filter λq=> !(c q.1||key==q.1):=by
 have e:(l.filter λq=> !(c q.1||key==q.1))=(l.filter λq=> !c q.1).filter λq=> !(key==q.1):=by
  rw [List.filter_filter];refine dp λq _=>?_;cases c q.1<;>cases key==q.1<;>rfl
 rw [e];exact ⟨λh=>(yy h).symm,λi o h=>te (hn.filter _) h⟩
def MF (m:Lb) (bs:Lb→Option Nat) (nm:kW):kW:=(nm.filter λp=>ao p.1 m).map λp=>(p.1,bs p.1,p.2.2)
theorem JJ {dn:Lb→Bool} {bs:Lb→Option Nat} {nm:kW} (h:∀p∈nm,dn p.1=true):lE m dn bs nm=kh (MF m bs nm):=by
 unfold lE kh MF;rw [dK];have e:(nm.filter λp=> !dn p.1||ao p.1 m)=nm.filter λp=>ao p.1 m:=dp λq hq=>by rw [h q hq];rfl
 rw [e];exact aj λq hq=>by rw [h q (d_.1 hq).1];rfl
theorem JL {bs:Lb→Option Nat} (nm:kW):lE m (λ_=>false) bs nm=(kh nm).map λe=>(e.1,none):=by
 unfold lE kh;rw [dK];have e:(nm.filter λp=> !(λ_=>false) p.1||ao p.1 m)=nm:=jK.2 λ_ _=>rfl;exact κ _ e
theorem JH (nm:kW) (th:z_):jk m (λ_=>false) nm th=th:=
 jK.2 λq _=>by
  have:rV m (λ_=>false) nm q.1=false:=by unfold rV;induction nm<;>simp_all
  rw [this];rfl
end
open Go.RowKit Go.Shelf Go.Proofs
def Jv (f m k e:Nat):Ren:=⟨λ| 5=>f | 7=>96 | n=>n,λ| 23=>m | 25=>k | 3=>e | n=>n,λn=>n⟩
theorem RD:SlLaysW.n5 Tryz.prog (Jv 60 121 9 68) where
 mixed:=mixed
 f5:=⟨"maps.Clone[map[string]lazaretto/store.Obj,string,lazaretto/store.Obj]",by decide,Tryz.func60.trans (κ some zx0)⟩
 f7:=Tryz.func96.trans (κ some zx0)
 t4:=Tryz.underlying4
 a4:=Tryz.isAgg4
 z4:=Tryz.sizeOf4
 v4:=Tryz.zeroValue4
 t20:=Tryz.underlying20
 a20:=Tryz.isAgg20
 z20:=Tryz.sizeOf20
 v20:=Tryz.zeroValue20
 t23:=Tryz.underlying121
 a23:=Tryz.isAgg121
 z23:=Tryz.sizeOf121
 v23:=Tryz.zeroValue121
theorem RE:SlLaysW.n5 Tryz.prog (Jv 61 122 37 93) where
 mixed:=mixed
 f5:=⟨"maps.Clone[map[lazaretto/label.Label][]string,lazaretto/label.Label,[]string]",by decide,Tryz.func61.trans (κ some zx0)⟩
 f7:=Tryz.func96.trans (κ some zx0)
 t4:=Tryz.underlying4
 a4:=Tryz.isAgg4
 z4:=Tryz.sizeOf4
 v4:=Tryz.zeroValue4
 t20:=Tryz.underlying20
 a20:=Tryz.isAgg20
 z20:=Tryz.sizeOf20
 v20:=Tryz.zeroValue20
 t23:=Tryz.underlying122
 a23:=Tryz.isAgg122
 z23:=Tryz.sizeOf122
 v23:=Tryz.zeroValue122
theorem vr (w:World) (o:Obj):gY w (w.alloc o):=
 have h:Below w.heap.size w (w.alloc o):=(Below.refl _ w).alloc (aR _) _
 ⟨h.size,h.block,h.os,h.tape,h.output⟩
theorem KI {G:Nat→Prop} {w:World} {a v:Value} (h:bB G w [v] a (.mp 0)):a=v:=by
 cases h with | o h=>cases h with | c h=>cases h with | k h=>cases h with | mp _ r h=>exact (an h).symm
theorem Mi (es:List (D×Bool×List D)):Z1 60 [.mp 0] [.dm es] λout h=>out = .ret (.mp 1)∧h = [.dm es,.dm es]:=by
 refine .inl ⟨by kernel_rfl,λG w ρ vs hR hl hv=>?_⟩
 match ρ,hR.len with
 |[v0],_=>
 match vs,hl with
 |[a0],_=>
 have ha:=KI (hv 0 _ rfl);subst ha;obtain ⟨r,arr,clk,rfl,h1,h2,h3,h4⟩:=hR.rep 0 a0 _ rfl rfl;refine Calls.mono (AnyW.maps_Clone RD r arr clk w h1) ?_
 rintro e w' ⟨rfl,rfl⟩
 have hg:=vr w (.map arr clk);have hid:∀x∈g_ es,jC x.1 = []∧jC x.2 = []:=λx hx=>by
  have:=xF es;simp only [et,cA,List.append_eq_nil_iff] at this;exact this x hx
 have hO:=(Ok.refl hR).push hg (.map (some w.heap.size)) (.dm es) (λb hb=>by cases hb;exact aR _) ⟨_,arr,clk,rfl,(MapKept.heap_alloc w _).1,h2,h3,λi e x he hx=>by
  have:=h4 i e x he hx;have hi:=hid x (aH hx);exact ⟨this.1.mono (λ_ h=>h) (λb hb=>hg.h_ b (hR.gl b hb)) (λj hj=>by rw [hi.1] at hj;cases hj),this.2.mono (λ_ h=>h) (λb hb=>hg.h_ b (hR.gl b hb)) (λj hj=>by rw [hi.2] at hj;cases hj)⟩⟩
 exact ⟨G,_,_,.ret (.mp 1),hO,⟨_,rfl,.k (.mp 1 _ rfl)⟩,rfl,rfl⟩
def bare (es:List ME):List ME:=es.map λe=>(e.1,none)
theorem Mg (es:List ME):Z1 61 [.mp 0] [.ms 1 es none none] λout h=>out = .ret (.mp 1)∧h = [.ms 1 es none none,.ms 1 (bare es) none none]:=by
 refine .inl ⟨by kernel_rfl,λG w ρ vs hR hl hv=>?_⟩
 match ρ,hR.len with
 |[v0],_=>
 match vs,hl with
 |[a0],_=>
 have ha:=KI (hv 0 _ rfl);subst ha;obtain ⟨⟨r,arr,clk,rfl,h1,h2,h3,h4,h5,h6⟩,_⟩:=hR.rep 0 a0 _ rfl rfl;refine Calls.mono (AnyW.maps_Clone RE r arr clk w h1) ?_
 rintro e w' ⟨rfl,rfl⟩
 have hg:=vr w (.map arr clk);have hgh:Bc (bare es) = []:=by
  unfold Bc bare;rw [List.filterMap_map];exact List.filterMap_eq_nil_iff.2 λx _=>rfl
 have hone:HK (bare es):=λi j k k' rs rs' b hi hj=>by
  unfold bare at hi;rw [aC,aG] at hi;obtain ⟨_,_,hi⟩:=hi;cases hi
 have hgm:gh (.ms 1 (bare es) none none) = []:=by simp [gh,hgh];rfl
 have hO:=(Ok.refl hR).NV hg (.map (some w.heap.size)) (.ms 1 (bare es) none none) (λb hb=>by
  rcases bT.1 hb with h | h
  ·cases h;exact aR _
  ·rw [hgm] at h;cases h) ⟨⟨_,arr,clk,rfl,(MapKept.heap_alloc w _).1,by rw [h2];simp [bare],h3,⟨hone,by rw [hgh];simp⟩,λi e x he hx=>by
   unfold bare at hx;rw [aC,aG] at hx;obtain ⟨y,hy,rfl⟩:=hx;exact ⟨(h5 i e y he hy).1.mono (λ_ h=>h) (λb hb=>hg.h_ b (hR.gl b hb)) (λj hj=>by simp [tw,jC,kG,ir] at hj),λb rs h=>by cases h⟩,λi v h=>(by cases h),λi v e h=>by cases h⟩,trivial⟩
 exact ⟨G,_,_,.ret (.mp 1),hO,⟨_,rfl,.k (.mp 1 _ rfl)⟩,rfl,rfl⟩
end Go.Proofs.YtjpgfgajkjhonaaGreatDoor
namespace Go.Proofs.YtjpgfgajkjhonaaGreatDoor
open Go.Vx
set_option maxRecDepth 100000
theorem Sat.eqs {P:Program} {f:Nat} {vs:List V} {x y:H} {o:Out} {K:KT} (h:Sat P f vs x λout h'=>out=o∧h'=y) (hk:K o y):Sat P f vs x K:=
 h.mono λ_ _ ⟨h1,h2⟩=>by rw [h1,h2];exact hk
theorem Mf (l:List (List D)) (hl:l.length<100000000):Z1 62 [.d (.sl 1 l)] [] λout h=>out = .ret (.os 0)∧h = [.rows 1 l]:=by
 refine si0 Tryz.f62 ?_;cases l with
 |nil=>
  repeat' ((conv=>whnf);first | exact zf | refine zm ?_ | refine And.intro ?_ ?_ | intro _)
 |cons r l=>
  exact zj0
def strip (p:Nm):Lb×List (List Nat):=(p.1,p.2.2)
def Bb (i:Nat) (b:Option Nat) (nm:kW):kW:=nm.modify i λp=>(p.1,b,p.2.2)
theorem Ba (i:Nat) (b:Option Nat) (nm:kW):(Bb i b nm).map strip=nm.map strip:=by
 unfold Bb;apply cj;intro j;rw [aC,aC,l9];cases nm[j]? with
 |none=>rfl
 |some x=>show some (strip (if i=j then (x.1,b,x.2.2) else x))=some (strip x);split<;>rfl
theorem JS {i:Nat} {nm:kW} {l:Lb} {g:Option Nat} {ns:List (List Nat)} (h:nm[i]? = some (l,g,ns)) (b:Option Nat) :
  eX i (some (b,dM (ns.map cR))) (eX i none (kh nm))=kh (Bb i b nm):=by
 rw [ve];apply cj;intro j;unfold kh Bb;rw [fe,aC,aC,l9]
 by_cases hj:i=j
 ·subst hj;rw [ζ rfl,h];simp
 ·rw [η hj];simp [hj]
theorem B5 {m:Lb} {d1 d2:Lb→Bool} {nm:kW} {th:z_} (h:∀p∈nm,d1 p.1=d2 p.1):jk m d1 nm th=jk m d2 nm th:=by
 unfold jk;refine dp λq _=>?_;unfold rV;have key:∀{l:kW},(∀p∈l,d1 p.1=d2 p.1)→(l.any λp=>d1 p.1 && !ao p.1 m&&p.2.2.any λk=>cR k==q.1)=l.any λp=>d2 p.1 && !ao p.1 m&&p.2.2.any λk=>cR k==q.1:=by
  intro l
  induction l with
  |nil=>intro _;rfl
  |cons x r ih=>intro h;rw [List.any_cons,List.any_cons,h x (by simp),ih λy hy=>h y (by simp [hy])]
 rw [key h]
theorem Ds (l:z_) (i:Nat):(iy l).eraseIdx i=iy (l.eraseIdx i):=by
 unfold iy
 induction l generalizing i with
 |nil=>rfl
 |cons x r ih=>cases i with
  |zero=>rfl
  |succ i=>exact κ _ (ih i)
def qw (th:z_) (ns:List (List Nat)):z_:=th.filter λq=> !ns.any λk=>cR k==q.1
theorem FU {th:z_} (h:th.Pairwise λa b=>a.1≠b.1) {ns:List (List Nat)} {j:Nat} (hj:j<ns.length) :
  (bI (cR ns[j]) (qw th (ns.take j))=none∧qw th (ns.take j)=qw th (ns.take (j+1))) ∨
  ∃i o,bI (cR ns[j]) (qw th (ns.take j))=some (i,o)∧(iy (qw th (ns.take j))).eraseIdx i=iy (qw th (ns.take (j+1))):=by
 obtain ⟨h1,h2⟩:=Jf (key:=cR ns[j]) h λx=>(ns.take j).any λk=>cR k==x;have e:qw th (ns.take (j+1))=th.filter λq=> !(((ns.take j).any λk=>cR k==q.1)||cR ns[j]==q.1):=by
  unfold qw;rw [bu,aB hj];refine dp λq _=>?_;rw [List.any_append];simp
 rw [e];cases hl:bI (cR ns[j]) (qw th (ns.take j)) with
 |none=>exact .inl ⟨rfl,h1 hl⟩
 |some x=>
  obtain ⟨i,o⟩:=x;exact .inr ⟨i,o,rfl,by rw [Ds];exact κ iy (h2 i o hl)⟩
structure HS (m:Lb) (s:b8) (left:List Nat) (nm':kW) (dn:Lb→Bool):Prop where
  st:nm'.map strip=s.nm.map strip
  nd:left.Nodup
  lt:∀i∈left,∃p,s.nm[i]? = some p∧dn p.1=false
  all:∀(i:Nat) (p:Nm),s.nm[i]? = some p→i∉left→dn p.1=true
theorem List.mR {l:List Nat} {i:Nat} (h:i∈l):(l.erase i).length<l.length:=by
 have:=List.length_erase_of_mem h;have:=List.length_pos_of_mem h;omega
theorem HS.step {m:Lb} {s:b8} {left:List Nat} {nm':kW} {dn:Lb→Bool} (h:HS m s left nm' dn) (hn:s.nm.Pairwise λa b=>a.1≠b.1) {i:Nat} (hm:i∈left) {p:Nm} (hp:s.nm[i]? = some p) (b:Option Nat):HS m s (left.erase i) (Bb i b nm') (more dn p.1):=by
 have hne:∀{j:Nat} {q:Nm},j≠i→s.nm[j]? = some q→q.1≠p.1:=λ{j q} hj hq e=>by
  rw [iu] at hn;obtain ⟨h1,rfl⟩:=aA.1 hp;obtain ⟨h2,rfl⟩:=aA.1 hq;rcases eL i j with h3 | h3 | h3
  ·exact hn i j h1 h2 h3 e.symm
  ·exact hj h3.symm
  ·exact hn j i h2 h1 h3 e
 refine ⟨(Ba _ _ _).trans h.st,h.nd.erase _,λj hj=>?_,λj q hq hj=>?_⟩
 ·have hji:j≠i:=λe=>by subst e;exact (List.Nodup.not_mem_erase h.nd) hj
  obtain ⟨q,hq,hd⟩:=h.lt j (List.mem_of_mem_erase hj);exact ⟨q,hq,by unfold more;rw [hd,Qa (hne hji hq)];rfl⟩
 ·by_cases hji:j=i
  ·subst hji;rw [hp] at hq;cases hq;unfold more;rw [zB,me]
  ·have:j∉left:=λhl=>hj ((List.mem_erase_of_ne hji).2 hl);unfold more;rw [h.all j q hq this];rfl
theorem Qh {K:KT} (s:b8) (m:Lb) (hn:s.nm.Pairwise λa b=>a.1≠b.1) (ht:s.th.Pairwise λa b=>a.1≠b.1) (hg:lY s) (hm:cI m) (hl:∀p∈s.nm,cI p.1)
  (hk:∀(nm':kW) (bs:Lb→Option Nat),nm'.map strip=s.nm.map strip→K (.ret (.p 3 0)) (j6 ⟨s.th,nm'⟩ ++ [.cells [.mp 4,.mp 5],.dm (iy (jk m (λ_=>true) s.nm s.th)),.ms 1 (kh (MF m bs s.nm)) none none])) :
  Z1 28 [.p 0 0,jT m] (j6 s) K:=by
 have h60:=λ{K:KT}=>Sat.eqs (K:=K) (Mi (iy s.th));have h61:=λ{K:KT}=>Sat.eqs (K:=K) (Mg (kh s.nm));have hbeg:HS m s (List.range (kh s.nm).length) s.nm λ_=>false:=by
  have hlen:(kh s.nm).length=s.nm.length:=aI _;exact ⟨rfl,qU,λi hi=>by
   have hi:i<s.nm.length:=by rw [←hlen];exact cV.1 hi
   exact ⟨_,aB hi,rfl⟩,λi p hp hi=>absurd (cV.2 (by rw [hlen];exact (aA.1 hp).1)) hi⟩
 refine s28.go (keep:=false) rfl ?_
 repeat' ((conv=>whnf);first | exact zf | refine (c_ (c_ ?_)) | refine zm ?_ | refine zr0 ?_ | refine (h60 ?_) | refine (h61 ?_) | refine And.intro ?_ ?_ | intro _)
 all_goals
  rename_i r
  conv=>whnf
  refine bN [(0,.p 0 0),(3,.p 3 0),(5,.p 6 0),(26,.it 2 r)] (λp:List Nat×Option Nat×kW×(Lb→Bool)×(Lb→Option Nat)=>HS m s p.1 p.2.2.1 p.2.2.2.1) (λ_=>[]) (λp=>[.cells [.mp 1,.mp 2],.dm (iy s.th),.ms 1 (kh p.2.2.1) none (some (r,p.1,p.2.1)),.cells [.d (.str m.s),.d (.str m.i)],.dm (iy (jk m p.2.2.2.1 s.nm s.th)),.ms 1 (lE m p.2.2.2.1 p.2.2.2.2 s.nm) none none,.cells [.mp 4,.mp 5]]) (λp=>p.1.length) (List.range (kh s.nm).length,none,s.nm,(λ_=>false),λ_=>none) hbeg ?_ ?_ ?_ (λp hi=>?_)
  ·exact zzz
  ·exact ⟨aU rfl,aU rfl,aU rfl,aU rfl,aU (by rw [JH]),aU (by rw [JL];rfl),aU rfl,trivial⟩
  ·exact zx0
  obtain ⟨left,cur,nm',dn,bs⟩:=p;dsimp only at hi ⊢
  repeat' ((conv=>whnf);first | exact zf | refine zm ?_ | intro _)
  refine ⟨λh0=>?_,λi hmem=>?_⟩
  ·subst h0;have hall:∀p∈s.nm,dn p.1=true:=λp hp=>by
    obtain ⟨i,hi'⟩:=aq.1 hp;exact hi.all i p hi' (by simp)
   repeat' ((conv=>whnf);first | exact zf | refine zm ?_ | intro _)
   have e1:jk m dn s.nm s.th=jk m (λ_=>true) s.nm s.th:=B5 λp hp=>hall p hp;have h9:=hk nm' bs hi.st;rw [←e1,←JJ hall] at h9;exact h9
  ·obtain ⟨p,hp,hd⟩:=hi.lt i hmem;obtain ⟨q,hq,hst⟩:∃q,nm'[i]? = some q∧strip q=strip p:=by
    have:=κ (λl=>l[i]?) hi.st;simp only [aC,hp,bA] at this;exact aG.1 this
   obtain ⟨l,g,ns⟩:=p;obtain ⟨l',g',ns'⟩:=q;unfold strip at hst;simp only [bW] at hst hd;obtain ⟨rfl,rfl⟩:=hst;have hrow:(kh nm')[i]? = some ((l'.s,l'.i),some (g',dM (ns'.map cR))):=by unfold kh;rw [aC,hq];rfl
   have hsm:=hl _ (aH hp);have h13:=gQ l' m hsm hm;cases hf:ao l' m
   all_goals rw [hf] at h13
   ·obtain ⟨x,hx⟩:=zK (m:=m) (bs:=bs) (aH hp) hd;have hT0:(jk m dn s.nm s.th).Pairwise λa b=>a.1≠b.1:=ht.filter _
    repeat' ((conv=>whnf);first | exact zf | refine zm ?_ | refine ⟨_,_,_,⟨rfl,hrow⟩,?_⟩ | refine zc h13 ?_ | refine zt ?_ | refine zu ?_ | intro _)
    repeat' ((conv=>whnf);first | exact zf | refine zm ?_ | refine zt ?_ | refine zu ?_ | intro _)
    conv=>whnf
    refine bN [(0,.p 0 0),(3,.p 3 0),(5,.p 6 0),(26,.it 2 r),(6,.p 8 0),(42,.os 7),(43,.d (.int .i64 (dM (ns'.map cR)).length))] (λj:Nat=>j≤ns'.length) (λj=>[(44,.d (.int .i64 j))]) (λj=>[.cells [.mp 1,.mp 2],.dm (iy s.th),.ms 1 (eX i none (kh nm')) (some (i,.os 7)) (some (r,left.erase i,some i)),.cells [.d (.str m.s),.d (.str m.i)],.dm (iy (qw (jk m dn s.nm s.th) (ns'.take j))),.ms 1 (lE m dn bs s.nm) none none,.cells [.mp 4,.mp 5],.rows 1 (dM (ns'.map cR)),.cells [.d (.str l'.s),.d (.str l'.i)]]) (λj=>ns'.length - j) 0 (ah _) ?_ ?_ ?_ (λj hj=>?_)
    ·exact zzz
    ·exact ⟨aU rfl,aU rfl,aU rfl,aU rfl,aU (by unfold qw;rw [nZ];exact κ B.dm (κ iy (jK.2 λ_ _=>rfl).symm)),aU rfl,aU rfl,aU rfl,aU rfl,trivial⟩
    ·exact zx0
    have hlen:(dM (ns'.map cR)).length=ns'.length:=by rw [jo,aI]
    by_cases hlt:j<ns'.length
    ·have tx:decide ((j:Int)<((dM (ns'.map cR)).length:Int))=true:=by rw [hlen];simp;omega
     have hr:(dM (ns'.map cR))[(j:Int).toNat]? = some [.str (cR ns'[j])]:=by rw [show (j:Int).toNat=j by omega];unfold dM;rw [aC,aC,aB hlt];rfl
     have hfn:=pJ (cR ns'[j]) (qw (jk m dn s.nm s.th) (ns'.take j)) 0;rcases FU hT0 hlt with ⟨h1,h2⟩ | ⟨y,o,h1,h2⟩
     all_goals rw [h1] at hfn
     ·skip
      repeat' ((conv=>whnf);first | exact zf | refine zm ?_ | refine (ft tx ?_) | refine ⟨_,hr,?_⟩ | refine ⟨_,hfn,?_⟩ | refine zt ?_ | refine zu ?_ | intro _)
      refine .inl ⟨j+1,hlt,(by show ns'.length - (j+1)<ns'.length - j;omega),zzz,⟨aU rfl,aU rfl,aU rfl,aU rfl,aU (by rw [h2]),aU rfl,aU rfl,aU rfl,aU rfl,trivial⟩,rfl⟩
     ·skip
      repeat' ((conv=>whnf);first | exact zf | refine zm ?_ | refine (ft tx ?_) | refine ⟨_,hr,?_⟩ | refine ⟨_,hfn,?_⟩ | refine zt ?_ | refine zu ?_ | intro _)
      refine .inl ⟨j+1,hlt,(by show ns'.length - (j+1)<ns'.length - j;omega),zzz,⟨aU rfl,aU rfl,aU rfl,aU rfl,aU (κ B.dm h2),aU rfl,aU rfl,aU rfl,aU rfl,trivial⟩,rfl⟩
    ·have tx:decide ((j:Int)<((dM (ns'.map cR)).length:Int))=false:=by rw [hlen];simp;omega
     obtain rfl:j=ns'.length:=by omega
     repeat' ((conv=>whnf);first | exact zf | refine zm ?_ | refine (ga tx ?_) | refine ⟨_,hx,?_⟩ | refine zt ?_ | refine zu ?_ | intro _)
     repeat' ((conv=>whnf);first | exact zf | refine zm ?_ | refine zt ?_ | refine zu ?_ | intro _)
     refine .inr ?_
     repeat' ((conv=>whnf);first | exact zf | refine zm ?_ | refine zt ?_ | refine zu ?_ | intro _)
     rename_i b;have e2:=JS hq b;have e4:iy (qw (jk m dn s.nm s.th) (ns'.take ns'.length))=iy (jk m (more dn l') s.nm s.th):=by rw [cu];exact κ iy (JG hn (aH hp) hf).symm
     have e5:(lE m dn bs s.nm).eraseIdx x=lE m (more dn l') bs s.nm:=JK (p:=(l',g,ns')) hn hf hx;refine ⟨(left.erase i,some i,Bb i b nm',more dn l',bs),hi.step hn hmem hp b,List.mR hmem,zzz,?_,rfl⟩;exact ⟨aU rfl,aU rfl,aU (κ (λes=>B.ms 1 es none (some (r,left.erase i,some i))) e2),aU rfl,aU (κ B.dm e4),aU (κ (λes=>B.ms 1 es none none) e5),aU rfl,trivial⟩
   ·obtain ⟨x,hx⟩:=zK (m:=m) (bs:=bs) (aH hp) hd;have hc:=Mf (dM (ns'.map cR)) (by rw [jo,aI];exact (hg.2 _ (aH hp)).1);have hscl:(dM (ns'.map cR)).all (λr=>r.all KX)=true:=by
     rw [aT];intro r hr;unfold dM at hr;obtain ⟨x,_,rfl⟩:=bF.1 hr;rfl
    have hsB:[B.rows 1 (dM (ns'.map cR))].all yW=true:=by show ((dM (ns'.map cR)).all (λr=>r.all KX)&&true)=true;rw [hscl];rfl
    repeat' ((conv=>whnf);first | exact zf | refine (gj 1 ?_) | refine (bp (bp (.inl ?_)):eZ _ (eZ _ (VD _ _ _ 62 _ _ _ _ _ _ _∨_))) | refine zm ?_ | refine ⟨_,_,_,⟨rfl,hrow⟩,?_⟩ | refine zc h13 ?_ | refine (And.intro ⟨rfl,λh=>nomatch h⟩ ?_) | refine ⟨_,_,hc,?_⟩ | refine zt ?_ | refine zu ?_ | intro _)
    refine And.intro ⟨(by show ((true && [B.rows 1 (dM (ns'.map cR))].all yW)&&true)=true;rw [hsB];rfl),rfl⟩ ?_
    repeat' ((conv=>whnf);first | exact zf | refine zm ?_ | refine zt ?_ | refine zu ?_ | intro _)
    refine .inl ⟨x,⟨hx,λj v h=>nomatch h⟩,λb2=>?_⟩
    repeat' ((conv=>whnf);first | exact zf | refine zm ?_ | refine zt ?_ | refine zu ?_ | intro _)
    refine .inr ?_
    repeat' ((conv=>whnf);first | exact zf | refine zm ?_ | refine zt ?_ | refine zu ?_ | intro _)
    rename_i b;have e2:=JS hq b;have e4:iy (jk m dn s.nm s.th)=iy (jk m (more dn l') s.nm s.th):=κ iy (Es (p:=(l',g,ns')) hf).symm;have e5:eX x (some (b2,dM (ns'.map cR))) (lE m dn bs s.nm)=lE m (more dn l') (λy=>bif AN y l' then b2 else bs y) s.nm:=JI (p:=(l',g,ns')) hn (aH hp) hf hx;refine ⟨(left.erase i,some i,Bb i b nm',more dn l',λy=>bif AN y l' then b2 else bs y),hi.step hn hmem hp b,List.mR hmem,zzz,?_,rfl⟩;exact ⟨aU rfl,aU rfl,aU (κ (λes=>B.ms 1 es none (some (r,left.erase i,some i))) e2),aU rfl,aU (κ B.dm e4),aU (κ (λes=>B.ms 1 es none none) e5),aU rfl,trivial⟩
def U0 (k:Nat) (s:b8):H:=[.cells [.mp (k+1),.mp (k+2)],.dm (iy s.th),.ms 1 (kh s.nm) none none]
theorem Pc {K:KT} (s r:b8) (he:r.th=s.th) (hn:found s.th) (hk:K (.ret (.d (.bool true))) (j6 s++U0 3 r)) :
  Z1 29 [.p 0 0,.p 3 0] (j6 s++U0 3 r) K:=by
 unfold U0 at hk ⊢;rw [he] at hk ⊢;have h63:=λ{K:KT}=>Sat.eqs (K:=K) (MV s.th hn);refine sh0 Tryz.f29 ?_
 repeat' ((conv=>whnf);first | exact zf | refine (c_ (c_ ?_)) | refine zm ?_ | refine zr0 ?_ | refine (h63 ?_) | refine And.intro ?_ ?_ | intro _)
 all_goals exact hk
section
variable {m:Lb}
theorem JF {dn:Lb→Bool} {s:b8} (hc:qS s) (h:∀p∈s.nm,dn p.1=true):jk m dn s.nm s.th=mq m s.th:=by
 unfold jk mq;refine dp λq hq=>?_;have hnd:s.th.Pairwise λa b=>a.1≠b.1:=by have:=hc.nd;unfold names List.Nodup at this;rwa [kR] at this
 cases hf:ao q.2.l m with
 |false=>
  obtain ⟨e,he,h1,k,hk,h2⟩:=hc.up q hq;have:rV m dn s.nm q.1=true:=cw.2 ⟨e,he,by
   rw [h e he,h1,hf,jV,n9,jV,cw];exact ⟨k,hk,by rw [h2];exact beq_self_eq_true _⟩⟩
  rw [this];rfl
 |true=>
  cases hg:rV m dn s.nm q.1 with
  |false=>rfl
  |true=>
   obtain ⟨e,he,h1⟩:=cw.1 hg;rw [aP,aP,cw] at h1;obtain ⟨⟨_,h2⟩,k,hk,h3⟩:=h1;obtain ⟨p,hp,h4,h5⟩:=hc.dn e he k hk;have h6:p.1=q.1:=h4.trans (by simpa using h3);have h7:p=q:=by
    have key:∀{l:z_},(l.Pairwise λa b=>a.1≠b.1)→p∈l→q∈l→p=q:=by
     intro l
     induction l with
     |nil=>intro _ h;cases h
     |cons x r ih=>
      intro hn g1 g2;rw [gW] at hn;rcases a8.1 g1 with e1 | e1
      ·rcases a8.1 g2 with e2 | e2
       ·rw [e1,e2]
       ·exact absurd h6 (by rw [e1];exact hn.1 _ e2)
      ·rcases a8.1 g2 with e2 | e2
       ·exact absurd h6.symm (by rw [e2];exact hn.1 _ e1)
       ·exact ih hn.2 e1 e2
    exact key hnd hp hq
   subst h7;rw [h5] at hf;rw [hf] at h2;cases h2
theorem JU {l:z_} (h:l.Pairwise λa b=>a.1≠b.1):found l:=λi p hp=>by
 have hd:(l.map (·.1)).Nodup:=by unfold List.Nodup;rw [kR];exact h
 obtain ⟨j,hj⟩:=rS hd (aH hp);have h1:=sO hj;have h:=h;rw [iu] at h;obtain ⟨hi,rfl⟩:=aA.1 hp;obtain ⟨hj1,hj2⟩:=aA.1 h1;rcases eL i j with e | e | e
 ·exact absurd (by rw [hj2]) (h i j hi hj1 e)
 ·subst e;exact hj
 ·exact absurd (by rw [hj2]) (h j i hj1 hi e)
theorem qS.pw {s:b8} (h:qS s):s.th.Pairwise λa b=>a.1≠b.1:=by
 have:=h.nd;unfold names List.Nodup at this;rwa [kR] at this
theorem qS.pl {s:b8} (h:qS s):s.nm.Pairwise λa b=>a.1≠b.1:=by
 have:=h.ld;unfold List.Nodup at this;rwa [kR] at this
theorem Ez {s:b8} (h:qS s) (m:Lb):found (mq m s.th):=JU (h.pw.filter _)
theorem nr {nm nm':kW} (h:nm'.map strip=nm.map strip) {e:Nm} (he:e∈nm'):∃e'∈nm,e'.1=e.1∧e'.2.2=e.2.2:=by
 have:strip e∈nm.map strip:=by rw [←h];exact bF.2 ⟨e,he,rfl⟩
 obtain ⟨e',h1,h2⟩:=bF.1 this;unfold strip at h2;rw [bW] at h2;exact ⟨e',h1,h2⟩
theorem Dz {nm nm':kW} (h:nm'.map strip=nm.map strip):nm'.map (·.1)=nm.map (·.1):=by
 have:=κ (List.map (·.1)) h;rw [dK,dK] at this;exact this
theorem qS.strip {s:b8} (h:qS s) {nm':kW} (hn:nm'.map strip=s.nm.map strip):qS ⟨s.th,nm'⟩ where
 nd:=h.nd
 ld:=by rw [Dz hn];exact h.ld
 up:=λp hp=>by
  obtain ⟨e,he,h1,k,hk,h2⟩:=h.up p hp;obtain ⟨e',he',h3,h4⟩:=nr hn.symm he;exact ⟨e',he',h3.trans h1,k,by rw [h4];exact hk,h2⟩
 dn:=λe he k hk=>by
  obtain ⟨e',he',h3,h4⟩:=nr hn he;rw [←h3];exact h.dn e' he' k (by rw [h4];exact hk)
 gd:=h.gd
 ne:=λe he=>by
  obtain ⟨e',he',h3,h4⟩:=nr hn he;rw [←h4];exact h.ne e' he'
theorem gN.strip {mx:Int} {q n:Nat} {s:b8} (h:gN mx q n s) {nm':kW} (hn:nm'.map strip=s.nm.map strip):gN mx q n ⟨s.th,nm'⟩ where
 nm:=by have:=κ List.length hn;rw [aI,aI] at this;show nm'.length≤_;rw [this];exact h.nm
 ns:=λe he=>by
  obtain ⟨e',he',h3,h4⟩:=nr hn he;rw [←h4];exact h.ns e' he'
 th:=h.th
theorem HI.strip {q n:Nat} {t:Th} {s:b8} (h:HI m q n t s) {nm':kW} (hn:nm'.map strip=s.nm.map strip):HI m q n t ⟨s.th,nm'⟩:=
 ⟨h.th,h.so.strip hn,h.own,h.id,h.cur,h.sc,h.no⟩
theorem qS.sm {mx:Int} {q n:Nat} {s:b8} (h:qS s) (hs:gN mx q n s):∀p∈s.nm,cI p.1:=λp hp=>by
 obtain ⟨k,hk⟩:=List.exists_mem_of_ne_nil _ (h.ne p hp);obtain ⟨x,hx,_,h2⟩:=h.dn p hp k hk;rw [←h2];exact (hs.th x hx).l
theorem DD {K:KT} {mx:Int} {q n:Nat} (s:b8) (hc:qS s) (hs:gN mx q n s) (hn:n<100000000) (hm:cI m)
  (hk:∀(nm':kW) (r:b8),nm'.map strip=s.nm.map strip→r.th=mq m s.th→K (.ret (.p 3 0)) (j6 ⟨s.th,nm'⟩++U0 3 r)) :
  Z1 28 [.p 0 0,jT m] (j6 s) K:=
 Qh s m hc.pl hc.pw ⟨by have:=hs.nm;omega,λp hp=>⟨by have:=(hs.ns p hp).1;omega,(hs.ns p hp).2⟩⟩ hm (hc.sm hs) λnm' bs h=>by
  have:=hk nm' ⟨jk m (λ_=>true) s.nm s.th,MF m bs s.nm⟩ h (JF hc λ_ _=>rfl);exact this
end
theorem pz (t:Th) (hs:t.sc.length<1000):Z0 57 [o4 t] (.d (.int .i64 (((t.sc.map eW).length:Int)+1))):=by
 have hl:(t.sc.map eW).length=t.sc.length:=aI _;refine sh0 Tryz.f57 ?_
 exact zj0
def p_ (t:Th):Lb:=match t.sc with
 |[]=>t.g.cur
 |x :: _=>x.g.cur
theorem Cy (t:Th):Z0 93 [o4 t,.d (.int .i64 0)] (jT (p_ t)):=by
 unfold p_ o4;cases hs:t.sc with
 |nil=>
  refine sh0 Tryz.f93 ?_
  exact zk0
 |cons x l=>
  refine sh0 Tryz.f93 ?_
  repeat' ((conv=>whnf);first | exact zf | refine zm ?_ | refine zt ?_ | refine zu ?_ | intro _)
  refine ⟨eW x,⟨by decide,rfl,rfl⟩,?_⟩
  exact zk0
theorem Lw (t:Th) (m:Lb) (hs:t.sc.length<1000) (h0:cI (p_ t)) (hm:cI m) (hf:ao (p_ t) m=false):Z0 56 [o4 t,jT m] (.d (.int .i64 0)):=by
 have h1:=pz t hs;have h2:=Cy t;have h3:=gQ (p_ t) m h0 hm;rw [hf] at h3;refine sh0 Tryz.f56 ?_
 repeat' ((conv=>whnf);first | exact zf | refine zm ?_ | refine zc h1 ?_ | intro _)
 conv=>whnf
 refine bN [(2,.p 0 0),(3,.p 1 0),(7,.d (.int .i64 (((t.sc.map eW).length:Int)+1)))] (λ_:Unit=>True) (λ_=>[(8,.d (.int .i64 0))]) (λ_=>[.cells [.d (.sl 14 (t.sc.map eW)),.d (.str t.g.cur.s),.d (.str t.g.cur.i)],.cells [.d (.str m.s),.d (.str m.i)]]) (λ_=>0) () trivial ?_ ?_ ?_ (λ_ _=>?_)
 ·exact zzz
 ·exact zzz
 ·exact rfl
 have tx:decide ((0:Int)<((t.sc.map eW).length:Int)+1)=true:=by simp
 repeat' ((conv=>whnf);first | exact zf | refine zm ?_ | refine (ft tx ?_) | refine zc h2 ?_ | refine zc h3 ?_ | intro _)
theorem Hj (t:Th) (m:Lb) (hs:t.sc = []) (h0:cI t.g.cur) (hm:cI m) (hf:ao t.g.cur m=true):Z0 56 [o4 t,jT m] (.d (.int .i64 1)):=by
 have h1:=pz t (by simp [hs]);have h2:=Cy t;have e:p_ t=t.g.cur:=by unfold p_;rw [hs]
 rw [e] at h2;have h3:=gQ t.g.cur m h0 hm;rw [hf] at h3;rw [hs] at h1;unfold o4 at h1 h2 ⊢;rw [hs] at h1 h2 ⊢;refine sh0 Tryz.f56 ?_
 repeat' ((conv=>whnf);first | exact zf | refine zm ?_ | refine zc h1 ?_ | intro _)
 conv=>whnf
 refine bN [(2,.p 0 0),(3,.p 1 0),(7,.d (.int .i64 1))] (λi:Nat=>i≤1) (λi=>[(8,.d (.int .i64 i))]) (λ_=>[.cells [.d (.sl 14 []),.d (.str t.g.cur.s),.d (.str t.g.cur.i)],.cells [.d (.str m.s),.d (.str m.i)]]) (λi=>1 - i) 0 (ah _) ?_ ?_ ?_ (λi hi=>?_)
 ·exact zzz
 ·exact zzz
 ·exact rfl
 rcases cq i 1 with hlt | hge
 ·obtain rfl:i=0:=by omega
  repeat' ((conv=>whnf);first | exact zf | refine zm ?_ | refine zc h2 ?_ | refine zc h3 ?_ | refine zt ?_ | refine zu ?_ | intro _)
  exact ⟨1,aR _,by decide,zzz,zzz,rfl⟩
 ·obtain rfl:i=1:=by omega
  exact zk1 h1
def PE:V:=.ag [.d (.str []),.d (.str []),.d (.str []),.d (.str []),.d (.str []),.d (.str []),.d (.sl 5 []),.d (.sl 5 []),.d (.sl 3 []),.d (.sl 14 []),.d (.int .i64 0),.d (.int .i64 0),.d (.int .i64 0),.d (.str []),.d (.int .i64 0),.d (.int .i64 0),.d (.str []),.d (.str []),.d (.str []),.d (.bool false)]
theorem uF (t:Th) (m:Lb) (hs:t.sc.length<1000) (h0:cI (p_ t)) (hm:cI m) (hf:ao (p_ t) m=false):Z0 27 [eo t,jT m] (.tu [PE,.d (.bool false)]):=by
 have h1:=sJ t;have h2:=pz t hs;have h3:=Lw t m hs h0 hm hf;refine sh0 Tryz.f27 ?_
 exact zk3 h1 h2 h3
theorem Er (t:Th) (m:Lb) (hs:t.sc = []) (h0:cI t.g.cur) (hm:cI m) (hf:ao t.g.cur m=true):Z0 27 [eo t,jT m] (.tu [eo t,.d (.bool true)]):=by
 have h1:=sJ t;have h2:=pz t (by simp [hs]);have h3:=Hj t m hs h0 hm hf;rw [hs] at h2;refine sh0 Tryz.f27 ?_
 exact zk3 h1 h2 h3
theorem LX (x:Dm):Own (xf x) where
 pa:=⟨[],PS.symm,by decide⟩
 sc:=λy hy=>by cases hy
theorem HO {x:Dm} (h:tQ x):tQ (yi true x):=⟨h.l,h.c,(show (0:Int)≤0∧(0:Int)≤255 by decide),h.fn,h.ar,h.ro⟩
theorem JM {q:Nat} {m:Lb} {x:Dm} (hx:tQ x) {s:b8} (hb:Dn 0 q 10 s) (hf:ao (xf (yi true x)).g.cur m=false):HI m q 10 (xf (yi true x)) s:=
 ⟨(KE 0 _ (HO hx) (show (0:Int).tmod 4≤0 by decide)).mono (by decide),hb.so,LX _,rfl,hf,λy hy=>(by cases hy),Tb hb.nm⟩
def zT:List V:=[.d (.str []),.d (.str []),.d (.str []),.d (.str []),.d (.str []),.d (.str []),.d (.sl 5 []),.d (.sl 5 []),.d (.sl 3 []),.d (.sl 14 []),.d (.int .i64 0),.d (.int .i64 0),.d (.int .i64 0),.d (.str []),.d (.int .i64 0),.d (.int .i64 0),.d (.str []),.d (.str []),.d (.str []),.d (.bool false)]
def PK (im:Im) (x:Dm) (m:Lb) (t:Th) (s r:b8):H:=Uo im x t s ++ [.cells [.d (.str m.s),.d (.str m.i)],.cells zT,.cells [.mp 8,.mp 9],.dm (iy r.th),.ms 1 (kh r.nm) none none]
theorem Ha {m:Lb} {q n:Nat} {t:Th} {s:b8} (h:HI m q n t s):ao (p_ t) m=false∧cI (p_ t):=by
 unfold p_;cases hs:t.sc with
 |nil=>exact ⟨h.cur,h.th.g.1⟩
 |cons x l=>exact ⟨(h.sc x (by rw [hs];simp)).1,(h.th.sc x (by rw [hs];simp)).g.1⟩
theorem l7.told {now mx:Int} {q n:Nat} {t:Th} {s:b8} {b:Option Nat} {r:Rs} (ht:gf mx n t) (T:l7 now mx q n t s b r):(∀x,r.e = .out x→cI x.l)∧∀x,r.e = .fork x→cI x.g.cur:=by
 cases T with
 |idle | core | fin=>exact ⟨λx h=>(by cases h),λx h=>by cases h⟩
 |FM k ma e t' s' _ _ _ D=>
  cases D with
  |out x _ _ h=>exact ⟨λy hy=>(by cases hy;exact h),λy hy=>by cases hy⟩
  |fork=>exact ⟨λy hy=>(by cases hy),λy hy=>(by cases hy;exact ht.g.1)⟩
  |set e g i nm o p k st on _ _ _ _ _ _ _ _ _ _ he=>exact ⟨λy hy=>(by rcases he with rfl | ⟨_,rfl,_⟩<;>cases hy),λy hy=>(by rcases he with rfl | ⟨_,rfl,_⟩<;>cases hy)⟩
  |go | log | make | scope=>exact ⟨λy hy=>(by cases hy),λy hy=>by cases hy⟩
theorem ue.told {m:Lb} {q n:Nat} {t:Th} {s:b8} {im:Im} {now:Int} {b b':Option Nat} {R:Rs} {E:Ef} {q' n':Nat} (h:ue m q' n' s R.e R.t R.s) (hE:HI m q n t s) (hr:R=nD im now b b' t s) (hP:tT im) (hn:n<30000000) (hE2:E=R.e.ef R.d) :
  (∀o∈E.out,cI o.l∧ao o.l m=false)∧∀f∈E.fork,cI f.g.cur∧ao f.g.cur m=false∧f.sc = []:=by
 have T:=ot hP hE.th hE.so (dT _) (by decide) (by omega) b b' (now:=now);obtain ⟨k1,_⟩:=kE (now:=now) hE.th hE.so (dT _) b;obtain ⟨t1,t2⟩:=l7.told k1 T;rw [←hr] at t1 t2;have ho:=h.out;have hf:=h.fork;subst hE2;generalize R.e=e at t1 t2 ho hf;cases e with
 |no | log | NG=>exact ⟨λo ho=>(by cases ho),λf hf=>by cases hf⟩
 |out x=>exact ⟨λo h=>(by rw [aM.1 h];exact ⟨t1 x rfl,ho x rfl⟩),λf hf=>by cases hf⟩
 |fork x=>exact ⟨λo ho=>(by cases ho),λf h=>(by rw [aM.1 h];exact ⟨t2 x rfl,hf x rfl⟩)⟩
theorem MX (e:Fx) (d:Bool) (h:Ni e=false):decide ((((e.ef d).log.map DM).length:Int)>0)=false∧(((((e.ef d).log.map DM).length:Int)==0)=true):=by
 cases e<;>first | exact ⟨rfl,rfl⟩ | cases h
theorem MD (hex:Z0 9 [] (.d (.bool true))) (q:Nat) (f:List (List Int)) (hf:∀l∈f,pM l) (l:List (Int×Ob)) (hl:∀p∈l,tO 255 q p) (hll:l.length<100000000) (hq:q<70000000) (x:Dm) (hx:tQ x) (at' st:Int) (hat:0≤at'∧at'≤255) (hst:0≤st∧st≤255) :
  Z0 6 [.d (.sl 1 (f.map λl=>[D.sl 1 (eJ l)])),.d (.sl 20 (l.map fD)),.ag (qN x),.d (.int .u8 at'),.d (.int .u8 st)] (.d (.bool true)):=by
 have hl0:∀p∈l.map tU,tO 0 q p:=by
  intro p hp;obtain ⟨y,hy,rfl⟩:=bF.1 hp;have h:=hl y hy;exact ⟨h.i,⟨h.o.l,h.o.v,h.o.w,h.o.qs,h.o.ql,⟨dT _,dT _⟩⟩⟩
 have h10:=λ{K:KT}=>Qb (K:=K) 0 q f hf (l.map tU) hl0 (by omega) x hx true;have h26:=LS l hll;have hm8:at'.tmod 8=at' % 8:=bD hat.1;have hs64:st.tmod 64=st % 64:=bD hst.1;obtain ⟨m,hm,hrow⟩:∃m∈gg,(gg.map kz)[(at'.tmod 8).toNat]? = some (kz m):=by
  have h8:(at'.tmod 8).toNat<gg.length:=by show _<8;omega
  exact ⟨gg[(at'.tmod 8).toNat],cL _,by rw [aC,aB h8];rfl⟩
 have hms:=sP m hm;refine sh0 Tryz.f6 ?_
 repeat' ((conv=>whnf);first | exact zf | refine zm ?_ | refine zc hex ?_ | refine zc h26 ?_ | refine (h10 (λim s hi hb=>?_)) | refine zc BR ?_ | refine ⟨_,⟨by omega,hrow,rfl⟩,?_⟩ | intro _)
 have hbs:=(KE 0 _ (HO hx) (show (0:Int).tmod 4≤0 by decide))
 cases hfl:ao (xf (yi true x)).g.cur m
 ·have h27:=uF (xf (yi true x)) m (Nat.zero_lt_succ _) hbs.g.1 hms hfl;have hI:=JM (m:=m) hx hb hfl;have h28:=λ{K:KT}=>DD (K:=K) s hb.co hb.so (by omega) hms
  repeat' ((conv=>whnf);first | exact zf | refine (c_ (c_ ?_)) | refine zm ?_ | refine zc h27 ?_ | refine zr0 ?_ | refine (h28 (λnm1 r hst1 hr=>?_)) | intro _)
  all_goals
   conv=>whnf
   refine bN [(4,.d (.int .u8 st)),(11,.d (.bool true)),(12,.p 1 0),(13,.p 5 0),(16,.p 7 0)] (λp:Nat×Th×b8=>p.1≤(st % 64).toNat∧HI m (q+10+2*p.1) (10+3*p.1) p.2.1 p.2.2∧qS p.2.2∧mq m p.2.2.th=r.th) (λp=>[(17,.d (.int .i64 p.1))]) (λp=>PK im x m p.2.1 p.2.2 r) (λp=>(st % 64).toNat - p.1) (0,xf (yi true x),⟨s.th,nm1⟩) ⟨ah _,hI.strip hst1,hb.co.strip hst1,hr.symm⟩ ?_ ?_ ?_ (λp hp=>?_)
   ·exact zzz
   ·exact zzz
   ·exact zx0
  all_goals
   obtain ⟨i,t,s⟩:=p;obtain ⟨i1,hE,hC,hV⟩:=hp;dsimp only at i1 hE hC hV ⊢
   by_cases hlt:i<(st % 64).toNat
   ·have tx:decide ((i:Int)<st.tmod 64)=true:=by rw [hs64];simp;omega
    have h12:=λ{K:KT}=>Ky (K:=K) im t s (i:Int) hi.pr hE.th hE.so (by decide) (by decide) (by omega) (by omega) (by omega)
    repeat' ((conv=>whnf);first | exact zf | refine (c_ (c_ ?_)) | refine zm ?_ | refine (ft tx ?_) | refine zr0 ?_ | refine (h12 (λb b' R E hr2 hE2=>?_)) | intro _)
    have hU:=hE.step (now:=(i:Int)) hi.pr (by omega) b b';have hC2:=EB (now:=(i:Int)) hi.pr hE.th hE.so hC (by decide) (by decide) (by omega) b b';rw [←hr2] at hU hC2;have h28:=λ{K:KT}=>DD (K:=K) R.s hC2 hU.hi.so (by omega) hms;have h29:=λ{K:KT} (r2:b8) (h:r2.th=mq m R.s.th)=>Pc (K:=K) r2 r (by rw [h,hU.UW,hV]) (by rw [h];exact Ez hC2 m);have hlg:=MX R.e R.d hU.log;rw [←hE2] at hlg;obtain ⟨tl,tz⟩:=hlg
    repeat' ((conv=>whnf);first | exact zf | refine zm ?_ | refine zr0 ?_ | refine (h28 (λnm2 r2 hst2 hr3=>?_)) | refine (h29 r2 hr3 ?_) | refine (ga tl ?_) | refine (ft tz ?_) | intro _)
    obtain ⟨o1,o2⟩:=hU.told hE hr2 hi.pr (by omega) hE2;have o0:(E.out.map uQ).length=E.out.length:=aI _;have f0:(E.fork.map fC).length=E.fork.length:=aI _
    repeat' ((conv=>whnf);first | exact zf | refine zm ?_ | intro _)
    conv=>whnf
    refine bN [(4,.d (.int .u8 st)),(11,.d (.bool true)),(12,.p 1 0),(13,.p 5 0),(16,.p 7 0),(17,.d (.int .i64 i)),(18,.p 10 0)] (λk:Nat=>k≤E.out.length) (λk=>[(19,.d (.int .i64 k))]) (λ_=>PK im x m R.t ⟨R.s.th,nm2⟩ r ++ [.cells ((x7 E).map .d)]) (λk=>E.out.length - k) 0 (ah _) ?_ ?_ ?_ (λk hk=>?_)
    ·exact zzz
    ·exact zzz
    ·exact zx0
    by_cases hkl:k<E.out.length
    ·have tk:decide ((k:Int)<((E.out.map uQ).length:Int))=true:=by simp;omega
     have hrw:(E.out.map uQ)[(k:Int).toNat]? = some (uQ E.out[k]):=by rw [show (k:Int).toNat=k by omega,aC,aB hkl];rfl
     obtain ⟨g1,g2⟩:=o1 _ (cL hkl);have h13:=gQ E.out[k].l m g1 hms;rw [g2] at h13
     repeat' ((conv=>whnf);first | exact zf | refine zm ?_ | refine (ft tk ?_) | refine ⟨_,⟨by omega,hrw,rfl⟩,?_⟩ | refine zc h13 ?_ | intro _)
     exact ⟨k+1,hkl,(by show E.out.length - (k+1)<E.out.length - k;omega),zzz,zzz,rfl⟩
    ·have tk:decide ((k:Int)<((E.out.map uQ).length:Int))=false:=by simp;omega
     repeat' ((conv=>whnf);first | exact zf | refine zm ?_ | refine (ga tk ?_) | intro _)
     conv=>whnf
     refine bN [(4,.d (.int .u8 st)),(11,.d (.bool true)),(12,.p 1 0),(13,.p 5 0),(16,.p 7 0),(17,.d (.int .i64 i)),(18,.p 10 0)] (λk:Nat=>k≤E.fork.length) (λk=>[(20,.d (.int .i64 k))]) (λ_=>PK im x m R.t ⟨R.s.th,nm2⟩ r ++ [.cells ((x7 E).map .d)]) (λk=>E.fork.length - k) 0 (ah _) ?_ ?_ ?_ (λk hk=>?_)
     ·exact zzz
     ·exact zzz
     ·exact zx0
     by_cases hkl:k<E.fork.length
     ·have tk:decide ((k:Int)<((E.fork.map fC).length:Int))=true:=by simp;omega
      have hrw:(E.fork.map fC)[(k:Int).toNat]? = some (fC E.fork[k]):=by rw [show (k:Int).toNat=k by omega,aC,aB hkl];rfl
      obtain ⟨g1,g2,g3⟩:=o2 _ (cL hkl);have el:p_ E.fork[k]=E.fork[k].g.cur:=by unfold p_;rw [g3]
      have h27f:=uF E.fork[k] m (by rw [g3];exact Nat.zero_lt_succ _) (by rw [el];exact g1) hms (by rw [el];exact g2)
      repeat' ((conv=>whnf);first | exact zf | refine zm ?_ | refine (ft tk ?_) | refine ⟨_,⟨by omega,hrw,rfl⟩,?_⟩ | refine zc h27f ?_ | intro _)
      exact ⟨k+1,hkl,(by show E.fork.length - (k+1)<E.fork.length - k;omega),zzz,zzz,rfl⟩
     ·have tk:decide ((k:Int)<((E.fork.map fC).length:Int))=false:=by simp;omega
      repeat' ((conv=>whnf);first | exact zf | refine zm ?_ | refine (ga tk ?_) | refine zi0 ?_ | intro _)
      have e1:q+10+2*(i+1)=q+10+2*i+2:=by omega
      have e2:10+3*(i+1)=10+3*i+3:=by omega
      refine ⟨(i+1,R.t,⟨R.s.th,nm2⟩),⟨hlt,?_,hC2.strip hst2,hU.UW.trans hV⟩,(by show (st % 64).toNat - (i+1)<(st % 64).toNat - i;omega),zzz,zzz,rfl⟩;show HI m (q+10+2*(i+1)) (10+3*(i+1)) R.t ⟨R.s.th,nm2⟩;rw [e1,e2];exact hU.hi.strip hst2
   ·have tx:decide ((i:Int)<st.tmod 64)=false:=by rw [hs64];simp;omega
    have h27e:=uF t m (by have:=hE.th.sl;omega) (Ha hE).2 hms (Ha hE).1
    repeat' ((conv=>whnf);first | exact zf | refine zm ?_ | refine (ga tx ?_) | refine zc h27e ?_ | intro _)
 ·have h27:=Er (xf (yi true x)) m rfl hbs.g.1 hms hfl
  exact zj1 h27
end Go.Proofs.YtjpgfgajkjhonaaGreatDoor