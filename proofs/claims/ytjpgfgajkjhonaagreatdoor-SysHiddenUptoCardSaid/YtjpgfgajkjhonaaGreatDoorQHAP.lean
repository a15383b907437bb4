/- Lemmas. Conditions: none. -/
import Derived.Test.YtjpgfgajkjhonaaGreatDoorQHAO
namespace Go.Vx
section
variable {P:Program} {E:gR} {n:Nat} {G:Nat→Prop} {ρ:List Value} {t:T} {h:H} {a:Act} {w:World} (ow:Nat→Bool)
theorem vW {is:List I} {vs:List V} {t:T} {j:Nat} (hj:j≤vs.length) (hi:j≤is.length):agree is vs (· < j) t (uw (is.take j) (vs.take j) t):=by
 intro s;rcases Ar (is.take j) (vs.take j) t (by simp;omega) s with ⟨k,i,h1,h2,h3⟩ | ⟨h1,h2⟩
 ·have hk:k<j:=by
   have:=(aA.1 h1).1;simp at this;omega
  rw [ae,ζ hk] at h1 h3;exact .inl ⟨k,i,hk,h1,h2,h3⟩
 ·refine .inr ⟨λk i hk hki=>?_,h2⟩;exact h1 k i (by rw [ae,ζ hk];exact hki)
theorem z7 (bs:List (List Nat)):cutAt bs≤bs.length:=by
 unfold cutAt;cases hf:(List.range bs.length).find? λm=>l4 m (bs.drop m) with
 |none=>exact aR _
 |some m=>
  have:=List.mem_of_find?_eq_some hf;rw [cV] at this;exact Nat.le_of_lt this
theorem JO:∀(t:T) (s:Nat),gs t s = .un∨∃p∈t,p.2=gs t s:=by
 intro t
 induction t with
 |nil=>intro s;exact .inl rfl
 |cons p t ih=>
  intro s;rw [gP];cases hb:Nat.beq p.1 s
  ·rw [ε];rcases ih s with h | ⟨q,h1,h2⟩
   ·exact .inl h
   ·exact .inr ⟨q,by simp [h1],h2⟩
  ·exact .inr ⟨p,by simp,rfl⟩
theorem Ps {E:gR} {n:Nat} {K:Ex→T→H→Prop} {e:Exit} {a:Act} {w:World} (h:QK E n (VV K) e a w):QK E n K e a w:=by
 obtain ⟨G,ρ,t,h,hC,hk⟩:=h;refine ⟨G,ρ,t,h,hC,?_⟩;cases e with
 |panic ch=>obtain ⟨_,_,_,_,hk⟩:=hk;exact hk.elim
 |_=>exact hk
theorem Pl {r:Option Nat} {N:Nat} (hm:P.follows .mixedOrders=true) (hE:E.ρ.length=E.h.length) {id:Nat} {ops:Array Oper} {x:C} (hx:comp P n (.region id ops true)=some x) {K:Ex→T→H→Prop} (hC:au E n G ρ t h a w)
  (hk:∀n0,wx (Sat P) ow n0 x t h K):(Code.region id ops true).wpIn (Fw r) N P (QK E n K) a w:=by
 simp only [comp] at hx;cases hnd:ops.toList.all BB with
 |false=>
  rw [hnd] at hx;cases hx;exact (hk 0).elim
 |true=>
 rw [hnd,Bool.not_true,ε] at hx;simp only [aK,aD] at hx;obtain ⟨is,his,hx⟩:=hx;split at hx
 ·rename_i hchk;cases hx;have hk:=hk 0;simp only [PG] at hk;rcases Jp hk with hk | hk
  case inr=>
   generalize hbs:Bw (ops.toList.map pL)=bs at *;generalize hmm:cutAt bs=m at *;simp only [aP] at hchk;obtain ⟨⟨⟨c1,c2⟩,c3⟩,c4⟩:=hchk;obtain ⟨il,ig⟩:=lT his;obtain ⟨bl,bg⟩:=D9 (ops.toList.map pL);rw [hbs] at bl bg;have hbl:bs.length=ops.size:=by simpa using bl
   have hil:is.length=ops.size:=by simpa using il
   have hml:m≤ops.size:=by rw [←hmm,←hbl];exact z7 bs
   have hql:((is.zip bs).take m).length=m:=by simp;omega
   rw [hql] at hk;have D:UM P n ops is bs m:=by
    refine ⟨hil,hbl,hml,λj o ho=>?_,λj o ho=>?_,λj b hb k hk=>?_,λj b hj hb i hi=>?_⟩
    ·have hjl:j<is.length:=by rw [hil];exact (aN.1 ho).1
     exact ⟨is[j],aB hjl,ig j o _ (by simpa using ho) (aB hjl)⟩
    ·exact bg j (pL o) (by rw [aC];simp [ho])
    ·have:=HL bs 0 c1 j b hb k hk;omega
    ·exact DH _ m c3 (j - m) b (by rw [aw];rw [←hb];congr 1;omega) i (by omega)
   rcases Jp hk with hk | hk
   ·refine lA C4 (sL hnd) hm (RR ow D rfl _ _ _ _ (by simp) ?_ ⟨λj b hj=>?_,.inl ⟨[],m,G,ρ,t,h,n6,by simp,λj=>⟨λhj=>?_,λhj=>by cases hj⟩,λj hj=>by (cases hj),hC.grow (gY.draw w _) (λ_ h=>h) (λ_ h=>.inl h),hk⟩⟩)
    ·rw [Array.toList_replicate];exact aZ List.count_le_length (by simp)
    ·have:=iV hj;simp at this;simp [this] at hj
    ·have:=iV hj;simp at this;simp [this] at hj
   ·obtain ⟨os,hk⟩:=zO hk;obtain ⟨G,t,h,vs,hC,_,_,hk⟩:=sS os.1 G t h [] (λ_=>undef) hC (by simp) hk;refine wpIn_mono (lA C4 (sL hnd) hm (My ow D c4 (λ_ _ _ h=>h) rfl _ _ _ _ (by simp) ?_ ⟨λj b hj=>?_,.inl ⟨[],m,G,ρ,t,h,n6,by simp,λj=>⟨λhj=>?_,λhj=>by cases hj⟩,λj hj=>by (cases hj),hC.grow (gY.draw w _) (λ_ h=>h) (λ_ h=>.inl h),hk⟩⟩)) λe a w hq=>Ps hq
    ·rw [Array.toList_replicate];exact aZ List.count_le_length (by simp)
    ·have:=iV hj;simp at this;simp [this] at hj
    ·have:=iV hj;simp at this;simp [this] at hj
  obtain ⟨os,hk⟩:=zO hk;obtain ⟨G,t,h,vs,hC,_,_,hk⟩:=sS os.1 G t h [] (λ_=>undef) hC (by simp) hk;generalize hbs:Bw (ops.toList.map pL)=bs at *;generalize hmm:cutAt bs=m at *;simp only [aP] at hchk;obtain ⟨⟨⟨c1,c2⟩,c3⟩,_⟩:=hchk;obtain ⟨il,ig⟩:=lT his;obtain ⟨bl,bg⟩:=D9 (ops.toList.map pL);rw [hbs] at bl bg;have hbl:bs.length=ops.size:=by simpa using bl
  have hil:is.length=ops.size:=by simpa using il
  have hml:m≤ops.size:=by rw [←hmm,←hbl];exact z7 bs
  have hqg:∀(j:Nat) (x:I) (b:List Nat),j<m→is[j]? = some x→bs[j]? = some b→((is.zip bs).take m)[j]? = some (x,b):=λj x b hj hx hb=>by
   rw [ae,ζ hj,iv];exact ⟨hx,hb⟩
  have hql:((is.zip bs).take m).length=m:=by simp;omega
  have hq1:∀j,j≤m→(((is.zip bs).take m).take j).map (·.1)=is.take j:=λj hj=>by
   rw [List.take_take,fW hj,fo];congr 1;exact eD (by omega)
  simp only [bo] at hk;generalize Nv ((is.zip bs).take m)+os.2=kk at hk;have hlo:E.ρ.length≤h.length:=by rw [hE];exact hC.ok.hl
  obtain ⟨ρ,hC⟩:=hC.room kk;generalize hh1:h++List.replicate kk B.nw=h1 at *;obtain ⟨rs,tR,hR,hkR,hRef⟩:=Pf ow _ _ _ _ hk;have hrl:=hRef.r1;have htR:=hRef.r2;have hvq:=hRef.r3;rw [hql] at hrl;have hvl:(rs.map (·.v)).length=m:=by simpa using hrl
  have hlts:∀(k:Nat),k≤m→(∀(j:Nat) (r:R),j<k→rs[j]? = some r→(r.ws.map (·.1)).Nodup∧∀w∈r.ws,w.1<h1.length)∧((rs.take k).foldl wr h1).length=h1.length:=by
   intro k
   induction k with
   |zero=>intro _;exact ⟨λj r hj=>by omega,by simp⟩
   |succ k ih=>
    intro hk;obtain ⟨i1,i2⟩:=ih (by omega);have hkb:k<bs.length:=by omega
    obtain ⟨r,v1,v2⟩:=hvq k _ (hqg k _ _ (by omega) (aB (by omega)) (aB hkb));have hw:=AL.ws ow v2;rw [i2] at hw;refine ⟨λj r' hj hr'=>?_,?_⟩
    ·rcases cq j k with h0 | h0
     ·exact i1 j r' h0 hr'
     ·obtain rfl:j=k:=by omega
      rw [v1] at hr';cases hr';exact hw
    ·rw [bu,v1,List.foldl_append];simp only [Option.toList,cN,List.foldl_nil];rw [(AQ hw.1 (by rw [i2];exact hw.2)).1];exact i2
  have D:R1 ow P n ops is bs m h.length rs t h1:=by
   refine ⟨hil,hml,λj o ho=>?_,λj o ho=>?_,λj b hb k hk=>?_,λj b hj hb i hi=>?_,λi j x y bi bj hi hj hne hx hy hbi hbj=>?_,λj x hj hx=>?_,hrl,λj k r r' b hj hk hb hlt hcf=>?_,λj r hj id hid=>?_⟩
   ·have hjl:j<is.length:=by rw [hil];exact (aN.1 ho).1
    exact ⟨is[j],aB hjl,ig j o _ (by simpa using ho) (aB hjl)⟩
   ·exact bg j (pL o) (by rw [aC];simp [ho])
   ·have:=HL bs 0 c1 j b hb k hk;omega
   ·exact DH _ m c3 (j - m) b (by rw [aw];rw [←hb];congr 1;omega) i (by omega)
   ·exact QN c2 (hqg i x bi hi hx hbi) (hqg j y bj hj hy hbj) hne
   ·have hjb:j<bs.length:=by omega
    obtain ⟨v,v1,v2⟩:=hvq j _ (hqg j x _ hj hx (aB hjb));rw [hq1 j (by omega),fo] at v2;exact ⟨v,_,_,v1,v2,vW (by omega) (by omega),vo (hlts j (by omega)).1⟩
   ·have hkm:k<m:=by rw [←hrl];exact (aA.1 hk).1
    have:=hRef.r6 j k r r' _ hj hk (hqg k _ b hkm (aB (by omega)) hb) hlt hcf;simpa using this
   ·obtain ⟨k1,k2,_,k4⟩:=hRef.r7 j r hj id hid;refine ⟨λs hs=>?_,k2,λk r' x hlt hk hx=>?_⟩
    ·rcases JO t s with e | ⟨p,hp,e⟩
     ·rw [e] at hs;cases hs
     ·rw [←e] at hs;exact k1 p hp hs
    ·have hkm:k<m:=by rw [←hrl];exact (aA.1 hk).1
     exact k4 k r' _ hlt hk (hqg k x _ hkm hx (aB (by omega)))
  have hA:agree is (rs.map (·.v)) (· < m) t tR:=by
   have h1:=vW (is:=is) (vs:=rs.map (·.v)) (t:=t) (j:=m) (by omega) (by omega);have h2:=hq1 m (aR _);rw [List.take_take,Nat.min_self] at h2;intro s;have h3:=htR s;rw [h2] at h3;have h4:(rs.map (·.v)).take m=rs.map (·.v):=dD (by omega);rw [h4] at h1;rw [h3];exact h1 s
  have hH:B8 rs (· < m) h1 hR:=by
   have:=vo (hlts m (aR _)).1;rw [dD (by omega)] at this;rw [hRef.r4];exact this
  refine lA C4 (sL hnd) hm (Ja ow hlo hE D hkR hA hH _ _ _ _ ?_ ⟨by simp,λj b hj=>?_,.inl ⟨λj hj=>?_,G,ρ,t,h1,hC.grow (gY.draw w _) (λ_ h=>h) (λ_ h=>.inl h),λs=>.inr ⟨λk i hk=>?_,rfl⟩,rfl,λi=>.inr ⟨λk r w hk=>?_,rfl⟩⟩⟩)
  ·rw [Array.toList_replicate];exact aZ List.count_le_length (by simp)
  ·have:=iV hj;simp at this;simp [this] at hj
  ·have:=iV hj;simp at this;simp [this] at hj
  ·have:=iV hk;simp at this;simp [this] at hk
  ·have:=iV hk;simp at this;simp [this] at hk
 ·cases hx;exact (hk 0).elim
theorem sa (v:V):Fa v v:=by
 cases v<;>rfl
theorem Fs {x y:V} (h:Fa x y):x=y∨∃z,x = .nl z∧y = .d (.sl z []):=by
 unfold Fa at h;split at h
 ·subst h;exact .inr ⟨_,rfl,rfl⟩
 ·exact .inl h
theorem dP.wk {v:Value} {x y:V} (hv:dP G w ρ v x) (h:Fa x y):dP G w ρ v y:=by
 rcases Fs h with rfl | ⟨z,rfl,rfl⟩
 ·exact hv
 ·cases hv with
  |k h=>cases h with
   |nl=>exact .k (.d (.yA z))
theorem bB.wk {v:Value} {x y:V} (hv:bB G w ρ v x) (h:Fa x y):bB G w ρ v y:=by
 rcases Fs h with rfl | ⟨z,rfl,rfl⟩
 ·exact hv
 ·cases hv with
  |o h=>cases h with
   |c h=>exact .o (.c (h.wk (by rfl)))
theorem CG:∀{a b:List V},UU a b→a.length=b.length∧∀(i:Nat) (y:V),b[i]? = some y→∃x,a[i]? = some x∧Fa x y
 |[],[],_=>⟨rfl,by simp⟩
 |_ :: _,[],h=>h.elim
 |[],_ :: _,h=>h.elim
 |a :: r,b :: s,h=>by
  obtain ⟨h1,h2⟩:=h;obtain ⟨g1,g2⟩:=CG h2;refine ⟨by simp [g1],λi y hy=>?_⟩;cases i with
  |zero=>simp at hy;subst hy;exact ⟨a,rfl,h1⟩
  |succ i=>simpa using g2 i y (by simpa using hy)
theorem Ft {x y:B} (h:Ke x y):x=y∨∃a b,x = .cells a∧y = .cells b∧UU a b:=by
 unfold Ke at h;split at h
 ·rcases h with rfl | h
  ·exact .inl rfl
  ·exact .inr ⟨_,_,rfl,rfl,h⟩
 ·exact .inl h
theorem AU {x y:B} (h:Ke x y):gh x=gh y:=by
 cases x<;>cases y<;>first | rfl | (cases h;done) | (cases h;rfl)
theorem AT {x y:B} (h:Ke x y) (hy:y≠.no):x≠.no:=by
 rcases Ft h with rfl | ⟨a,b,rfl,rfl,_⟩
 ·exact hy
 ·simp
theorem cm.wk {hd:Value} {x y:B} (hv:cm G w ρ hd x) (h:Ke x y):cm G w ρ hd y:=by
 rcases Ft h with rfl | ⟨a,b,rfl,rfl,hl⟩
 ·exact hv
 ·obtain ⟨bb,arr,ty,h1,h2,h3,h4⟩:=hv;obtain ⟨g1,g2⟩:=CG hl;refine ⟨bb,arr,ty,h1,h2,h3.trans g1,λi y hy=>?_⟩;obtain ⟨x,hx,hw⟩:=g2 i y hy;exact (h4 i x hx).wk hw
theorem Qi:∀{t s:T},lM t s→∀i,gs s i = .un∨(Fa (gs t i) (gs s i)∧∃p∈s,p.2=gs s i):=by
 intro t s
 induction s with
 |nil=>intro _ i;exact .inl rfl
 |cons p s ih=>
  intro hs i;obtain ⟨j,v⟩:=p;simp only [lM] at hs;simp only [gP]
  by_cases e:j=i
  ·subst e;simp only [fG,δ];exact .inr ⟨hs.1,(j,v),by simp,rfl⟩
  ·rw [fy e];rcases ih hs.2 i with h1 | ⟨h1,p,h2,h3⟩
   ·exact .inl h1
   ·exact .inr ⟨h1,p,by simp [h2],h3⟩
theorem GH:∀{h s:H},lN h s→s.length≤h.length∧∀(i:Nat) (x:B),s[i]? = some x→x = .no∨∃y,h[i]? = some y∧Ke y x:=by
 intro h
 induction h with
 |nil=>
  intro s hs;cases s with
  |nil=>simp
  |cons=>exact hs.elim
 |cons b h ih=>
  intro s hs;cases s with
  |nil=>simp
  |cons c s=>
   have hc:lN h s∧(c = .no∨Ke b c):=by
    cases c with
    |no=>exact ⟨hs,.inl rfl⟩
    |_=>exact ⟨hs.2,.inr hs.1⟩
   obtain ⟨h1,h2⟩:=ih hc.1;refine ⟨by simp;omega,λi x hi=>?_⟩;cases i with
   |zero=>
    simp at hi;subst hi;rcases hc.2 with h3 | h3
    ·exact .inl h3
    ·exact .inr ⟨b,by simp,h3⟩
   |succ i=>simpa using h2 i x (by simpa using hi)
theorem au.Nf (hC:au E n G ρ t h a w) (hE:E.ρ.length=E.h.length) {s1:T} {s2:H} (ht:∀i,gs s1 i = .un∨(Fa (gs t i) (gs s1 i)∧∃p∈s1,p.2=gs s1 i)) (hh:lN h s2) (hl:yw E.h.length s1 s2=true):∃ρ',ρ'=ρ.take s2.length∧au E n G ρ' s1 s2 a w:=by
 obtain ⟨h1,h2⟩:=GH hh;simp only [yw,aP,aT] at hl;obtain ⟨⟨l1,l2⟩,l3⟩:=hl;have l1:=a_ l1;have hr:=hC.ok.hr;have hρl:=hr.len;have hg:∀(i:Nat) (v:Value),(ρ.take s2.length)[i]? = some v→ρ[i]? = some v:=λi v hi=>by
  rw [ae] at hi;split at hi
  ·exact hi
  ·cases hi
 have hg':∀i,i<s2.length→(ρ.take s2.length)[i]? = ρ[i]?:=λi hi=>by rw [ae,ζ hi]
 have ho:∀b,own (ρ.take s2.length) s2 b→own ρ h b:=by
  rintro b ⟨i,v,x,g1,g2,g3,g4⟩
  obtain ⟨y,y1,y2⟩:=(h2 i x g2).resolve_left g3;rw [e9,←AU y2] at g4;exact ⟨i,v,y,hg i v g1,y1,AT y2 g3,g4⟩
 refine ⟨ρ.take s2.length,rfl,⟨⟨by simp;omega,λi v x g1 g2=>?_,λi i' v v' x x' b g1 g2 g3 g4 g5 g6 g7 g8=>?_,hr.gl,λb hb hob=>hr.gd b hb (ho b hob),hr.uH⟩,hC.ok.gm,hC.ok.go,λb hb=>hC.ok.oo b (ho b hb),hC.ok.frame,hC.ok.size,hC.ok.os,hC.ok.tape,
  hC.ok.out,λi v g1 g2=>?_,l1,λr hr=>let ⟨e1,e2,e3⟩:=hC.ok.sN r hr;⟨e1,e2,λe4=>e3 (ho r e4)⟩⟩,hC.df,hC.sz,λi=>?_⟩
 ·rcases h2 i x g2 with rfl | ⟨y,h3,h4⟩
  ·trivial
  ·exact ((hr.rep i v y (hg i v g1) h3).wk h4).mono (λ_ h=>h) (λ_ _=>rfl) (λ_ _=>rfl) (λj hj=>hg' j ((dQ ..).mp (l3 x (aH g2) j hj)))
 ·obtain ⟨y,y1,y2⟩:=(h2 i x g2).resolve_left g3;obtain ⟨y',y1',y2'⟩:=(h2 i' x' g5).resolve_left g6;rw [e9,←AU y2] at g7;rw [e9,←AU y2'] at g8;exact hr.nW i i' v v' y y' b (hg i v g1) y1 (AT y2 g3) (hg i' v' g4) y1' (AT y2' g6) g7 g8
 ·have:=hC.ok.hand i v g1 g2;rw [hg' i]
  ·exact this
  ·have:=(aA.1 g1).1;omega
 ·rcases ht i with e | ⟨e,p,p1,p2⟩
  ·rw [e];exact .k (.un _)
  ·refine ((hC.tm i).wk e).mono (λ_ h=>h) (λ_ _=>rfl) (λj hj=>hg' j ?_);have:=l2 p p1 j (by rw [p2];exact hj);exact (dQ ..).mp this
theorem au.less (hC:au E n G ρ t h a w) (hE:E.ρ.length=E.h.length) {s1:T} {s2:H} (ht:lM t s1) (hh:lN h s2) (hl:yw E.h.length s1 s2=true):∃ρ',ρ'=ρ.take s2.length∧au E n G ρ' s1 s2 a w:=
 hC.Nf hE (Qi ht) hh hl
theorem au.Td (hC:au E n G ρ t h a w) (hE:E.ρ.length=E.h.length) {s2:H} (hh:lN h s2) (hl:yw E.h.length t s2=true):∃ρ',ρ'=ρ.take s2.length∧au E n G ρ' t s2 a w:=
 hC.Nf hE (λi=>(JO t i).imp (λh=>h) λ⟨p,h1,h2⟩=>⟨sa _,p,h1,h2⟩) hh hl
end
section
variable {P:Program} {E:gR} {n:Nat} {G:Nat→Prop} {ρ:List Value} {t:T} {h:H} {a:Act} {w:World} (ow:Nat→Bool)
theorem Ok.self (hr:HR G w ρ h) {ds:List Deferred} {ms:List Nat} (hm:∀r∈ms,w.heap[r]? = some (.deferred (some []))∧¬G r∧¬own ρ h r):Ok ⟨w,G,ρ,h,ds,ms⟩ G w ρ h:=
 ⟨hr,λ_ h=>h,λ_ h=>.inl h,λ_ h=>.inr h,λ_ _ _=>rfl,aR _,rfl,rfl,rfl,λ_ _ h _=>h,aR _,hm⟩
theorem G0 {ca cb:Code} {xa xb:C} (hA:WK P ow n ca xa) (hB:WK P ow n cb xb) {T0:T} (hC:au E n G ρ T0 h a w) {l:Nat} {rec:Loop} (hl:w.heap[l]? = some (.loop rec)) (hrec:rec.state = .ready)
  (hEl:E.w.heap.size≤l) (hEG:¬E.G l) (hst:(T0.all λp=> !(KW p.2))=true) {ps:List Nat} {row:List D} (hps:∀p∈ps,p<n) (hrow:∀d∈row,Rb d) {KB:Ex→H→Prop} (hpan:∀v h,¬KB (.fm v) h)
  (hk:wx (Sat P) ow h.length xa (Ri ps row T0) h λe t h=>match e with
   |.pj=>wx (Sat P) ow h.length xb t h λe _ h=>KB e h
   |_=>False) {R:Ending→World→Prop}
  (hR1:∀(G':Nat→Prop) (ρ':List Value) (h':H) (w':World),au E n G' ρ' T0 h' a w'→w'.heap[l]? = some (.loop { rec with state:=.ready,pending:=none })→l8 G w ρ G' w' ρ'→KB .pj h'→R (.returned (.bool true)) w')
  (hR2:∀(G':Nat→Prop) (ρ':List Value) (h':H) (w':World) (c:Code),au E n G' ρ' T0 h' a w'→w'.heap[l]? = some (.loop { rec with state:=.done,pending:=some c })→((c = .ret∧KB .ret h')∨∃j,c = .exit j∧KB (.ext j) h')→R (.returned (.bool false)) w') :
  ca.wpIn (Fw (some l)) 0 P (Exit.then (λa₁ w₁ =>∃w₂,(Instr.beginRound l).run P w₁ = .ok () w₂∧cb.wpIn (Fw (some l)) 0 P (roundPost P l R) a₁ w₂) (λ_ _ _=>False))
   { tmps:=(ps.zip (row.map qt)).foldl (λt (p,v)=>t.setIfInBounds p v) a.tmps,defers:=[] } w:=by
 have hr:=hC.ok.hr;have hrl:C3 w l:=.inl ⟨_,hl⟩;have hGl:¬G l:=hC.ok.ng hrl hEG;have hml:∀r∈E.ms,r∈E.ms∧r≠l:=λr hr=>⟨hr,λe=>by
  subst e;have:=(hC.ok.sN r hr).1;rw [hl] at this;cases this⟩
 have hC1:au ⟨w,G,ρ,h,[],E.ms⟩ n G ρ (Ri ps row T0) h { tmps:=(ps.zip (row.map qt)).foldl (λt (p,v)=>t.setIfInBounds p v) a.tmps,defers:=[] } w:=
  ⟨.self hr hC.ok.sN,rfl,(E_ _ _).trans hC.sz,Q5 ps row T0 a.tmps (λp hp=>by rw [hC.sz];exact hps p hp) hrow hC.tm⟩
 refine wpIn_mono (hA (some l) 0 ⟨w,G,ρ,h,[],E.ms⟩ hr.len (λl' e=>by cases e;exact ⟨⟨_,hl⟩,hr.BA hrl⟩) G ρ _ _ _ _ _ hC1 hk) ?_
 rintro e a1 w1 ⟨E1,⟨l1,rfl,_,_⟩,_,G1,ρ1,t1,h1,hC2,hk2⟩
 cases e with
 |normal=>
  have hl1:w1.heap[l]? = some (.loop rec):=(hC2.ok.frame l hrl.lt (hr.BA hrl)).trans hl;have hrl1:C3 w1 l:=.inl ⟨_,hl1⟩;refine ⟨_,run_beginRound hl1 hrec,?_⟩;have hG1:¬G1 l:=hC2.ok.ng hrl1 hGl;have hOa:Ok E G1 w1 ρ1 h1:=hC.ok.comp (λr hr=>by simp [hr]) hC2.ok;have hOb:Ok E G1 (w1.putObj l (.loop { rec with state:=.busy })) ρ1 h1:=hOa.Gk hrl1 hEl hG1 hml _;have hSa:l8 G w ρ G1 w1 ρ1:=hC2.ok.stay hr;have hl2:(w1.putObj l (.loop { rec with state:=.busy })).heap[l]? = some (.loop { rec with state:=.busy }):=World.putObj_heap_same hrl1.lt;have hrl2:C3 (w1.putObj l (.loop { rec with state:=.busy })) l:=.inl ⟨_,hl2⟩;have hSb:l8 G w ρ G1 (w1.putObj l (.loop { rec with state:=.busy })) ρ1:=hSa.trans (.put hG1 _);have hC3:au ⟨w1.putObj l (.loop { rec with state:=.busy }),G1,ρ1,h1,a1.defers,E.ms⟩ n G1 ρ1 t1 h1 a1 (w1.putObj l (.loop { rec with state:=.busy })):=
   ⟨.self hOb.hr hOb.sN,rfl,hC2.sz,λi=>p8 (hC2.tm i) hG1 _⟩
  generalize w1.putObj l (.loop { rec with state:=.busy })=w2 at *;refine wpIn_mono (hB (some l) 0 ⟨w2,G1,ρ1,h1,a1.defers,E.ms⟩ hOb.hr.len (λl' e=>by cases e;exact ⟨⟨_,hl2⟩,hOb.hr.BA hrl2⟩) G1 ρ1 _ _ _ _ _ hC3 hk2) ?_
  rintro e a2 w3 ⟨E2,⟨l2,rfl,_,_⟩,_,G2,ρ2,t2,h2,hC4,hk4⟩
  have hl3:w3.heap[l]? = some (.loop { rec with state:=.busy }):=(hC4.ok.frame l hrl2.lt (hOb.hr.BA hrl2)).trans hl2;have hrl3:C3 w3 l:=.inl ⟨_,hl3⟩;have hG2:¬G2 l:=hC4.ok.ng hrl3 hG1;have hOc:Ok E G2 w3 ρ2 h2:=hOb.comp (λr hr=>by simp [hr]) hC4.ok;have hSc:∀o,l8 G w ρ G2 (w3.putObj l o) ρ2:=λo=>(hSb.trans (hC4.ok.stay hOb.hr)).trans (.put hG2 _);have fin:∀o,au E n G2 ρ2 T0 h2 a (w3.putObj l o):=λo=>⟨hOc.Gk hrl3 hEl hG2 hml _,hC.df,hC.sz,λi=>(hSc o).rep (hC.tm i) (MI hst i)⟩
  have hsame:∀o,(w3.putObj l o).heap[l]? = some o:=λo=>World.putObj_heap_same hrl3.lt;cases e with
  |normal=>exact ⟨_,_,run_endRound none hl3,hR1 G2 ρ2 h2 _ (fin _) (hsame _) (hSc _) hk4⟩
  |ret=>exact ⟨_,_,run_endRound (some .ret) hl3,hR2 G2 ρ2 h2 _ .ret (fin _) (hsame _) (.inl ⟨rfl,hk4⟩)⟩
  |exit j=>exact ⟨_,_,run_endRound (some (.exit j)) hl3,hR2 G2 ρ2 h2 _ (.exit j) (fin _) (hsame _) (.inr ⟨j,rfl,hk4⟩)⟩
  |panic ch=>obtain ⟨_,_,_,_,hk4⟩:=hk4;exact absurd hk4 (hpan _ _)
  |goto l=>exact hk4.elim
  |outgrown=>exact hk4.elim
 |panic ch=>obtain ⟨_,_,_,_,hk2⟩:=hk2;exact hk2.elim
 |exit j=>exact hk2.elim
 |ret=>exact hk2.elim
 |goto l=>exact hk2.elim
 |outgrown=>exact hk2.elim
theorem uP {r:Option Nat} (hrd:N_ r E) {T0:T} (hC:au E n G ρ T0 h a w) (fn:FuncId) (ps:Array Tmp) (ca cb:Code) :
    ∃(l dd:Nat) (mark:List Deferred) (w1:World) (rec:Loop) (E1:gR),(Instr.enterLoop fn a.tmps ps ca cb r).run P w = .ok (l,mark) w1∧rec={ state:=.ready,pending:=none,fn,tmps:=a.tmps,params:=ps,assign:=ca,body:=cb,defers:=dd } ∧
      w1.heap[l]? = some (.loop rec)∧w.heap.size≤l∧gY w w1∧mc E E1∧au E1 n G ρ T0 h { a with defers:=mark++a.defers } w1:=by
  cases r with
  |none=>
    have hg:∀rec,gY w ((w.alloc (.deferred (some []))).alloc (.loop rec)):=λrec=>(gY.alloc w _).trans (gY.alloc _ _)
    refine ⟨w.heap.size+1,w.heap.size,_,_,_,{ E with ds:=[w.heap.size].map T3++E.ds,ms:=[w.heap.size]++E.ms },run_enterLoop_outer fn a.tmps ps ca cb,rfl,?_,by omega,hg _,⟨_,rfl,λhn=>?_,λr hr=>?_⟩,?_⟩
    · have:=World.alloc_heap_new (w.alloc (.deferred (some []))) (.loop { state:=.ready,pending:=none,fn,tmps:=a.tmps,params:=ps,assign:=ca,body:=cb,defers:=w.heap.size })
      rwa [World.size_alloc] at this
    · refine cr.2 ⟨λhm=>?_,hn⟩
      have:=(aN.1 (hC.ok.sN _ hm).1).1
      omega
    · simp at hr;subst hr;exact hC.ok.size
    · have h1:=hC.grow (G':=G) (hg { state:=.ready,pending:=none,fn,tmps:=a.tmps,params:=ps,assign:=ca,body:=cb,defers:=w.heap.size }) (λ_ h=>h) (λ_ h=>.inl h)
      refine ⟨⟨h1.ok.hr,h1.ok.gm,h1.ok.go,h1.ok.oo,h1.ok.frame,h1.ok.size,h1.ok.os,h1.ok.tape,h1.ok.out,h1.ok.hand,h1.ok.hl,λr hr=>?_⟩,?_,h1.sz,h1.tm⟩
      · rcases aS.1 hr with hr | hr
        · simp at hr;subst hr
          refine ⟨?_,λhG=>?_,λho=>?_⟩
          · exact ((gY.alloc _ _).h_ w.heap.size (by simp)).trans (World.alloc_heap_new w _)
          · have:=hC.ok.hr.gl _ hG;omega
          · have:=hC.ok.hr.ya ho;omega
        · exact h1.ok.sN r hr
      · simp [hC.df,T3]
  |some l0=>
    obtain ⟨⟨r0,h0⟩,h2⟩:=hrd l0 rfl
    have hl0:w.heap[l0]? = some (.loop r0):=(hC.ok.frame l0 (aN.1 h0).1 h2).trans h0
    refine ⟨w.heap.size,r0.defers,[],_,_,E,run_enterLoop_inner hl0 fn a.tmps ps ca cb,rfl,World.alloc_heap_new w _,aR _,gY.alloc w _,.refl E,?_⟩
    exact hC.grow (gY.alloc w _) (λ_ h=>h) (λ_ h=>.inl h)
theorem FY {f:Nat} (h:fF P f=true):f<P.funcs.size:=by
 unfold fF at h;split at h
 ·rename_i fn hf;exact (aN.1 hf).1
 ·cases h
theorem SR {r:Option Nat} {N:Nat} (hE:E.ρ.length=E.h.length) (hrd:N_ r E) {ca cb:Code} {xa xb:C} (hA:WK P ow n ca xa) (hB:WK P ow n cb xb) {g:Operand} {og:O} (hg:ck P 0 g=some og) {ps:Array Tmp} (hps:∀p∈ps.toList,p<n)
  (hP:P.funcs.size≤5000000) {b:Bool} (hb:b=false) {K:Ex→T→H→Prop} (hC:au E n G ρ t h a w) (hk:wx (Sat P) ow E.h.length (.rf og ps.toList xa xb) t h K):(Code.rangeFunc g ps ca cb).wpIn (Fw r) N P (QM b E n K) a w:=by
 subst hb;rw [Rt] at hk;unfold SQ at hk;obtain ⟨f,caps,ids,T0,A,I,Hs,x0,n1,z,xs,⟨hgv,hf,hchk,hcs,hpl⟩,hS,⟨hz,hxs⟩,⟨hs1,⟨B6,hs2⟩,hs3⟩,hH,hRd,hD⟩:=hk;have hf:=(dQ ..).mp hf;have hz:=jf hz;obtain ⟨z',hI⟩:∃z':Nat,AD P f (caps.map (wj (pos ids))) (ids.map λi=>eb (pos ids) ((get? h i).getD .no)) xs:=by
  rcases hS with h1 | ⟨_,z',xs',h1,h2⟩
  ·have:=FY h1.ok;omega
  ·have e:xs'=xs:=by
    have:=h2.1;simp only [Out.ret.injEq,V.d.injEq,D.sl.injEq] at this;exact this.2
   rw [j9,e] at h1;exact ⟨z',h1⟩
 obtain ⟨ρ0,hρ0,hC0⟩:=hC.less hE hs1 hs2 (hH x0).2.1;simp only [Fg,aP,aT] at hchk;obtain ⟨⟨c1,c2⟩,c3⟩:=hchk;have hgetH:∀(i:A),∀j∈ids,get? (Hs i) j=get? h j:=λi j hj=>List.map_inj_left.1 (hH i).2.2 j hj;have hcell:∀j∈ids,∃cs,h[j]? = some (.cells cs)∧(cs.all λx=> !(NO x))=true:=λj hj=>by
  have:=aT.1 hpl j hj;rw [get?_eq] at this;cases hc:h[j]? with
  |none=>rw [hc] at this;cases this
  |some x=>
   rw [hc] at this;cases x<;>first | exact ⟨_,rfl,this⟩ | cases this
 have hid:∀j∈ids,j<n1:=λj hj=>by
  obtain ⟨cs,h1,_⟩:=hcell j hj;have:=hgetH x0 j hj;rw [get?_eq,get?_eq,h1] at this;rw [←(hH x0).1];exact (aA.1 this).1
 have hρ0':∀j∈ids,ρ0[j]? = ρ[j]?:=λj hj=>by rw [hρ0,ae,(hH x0).1,ζ (hid j hj)]
 have hnsl:∀j∈ids,∃u,ρ0[j]? = some u∧j1 u=false:=λj hj=>by
  obtain ⟨cs,h1,_⟩:=hcell j hj;have hjl:=hid j hj;have hl0:ρ0.length=n1:=by rw [hC0.ok.hr.len,(hH x0).1]
  refine ⟨ρ0[j],aB (by omega),?_⟩;have hx:(Hs x0)[j]? = some (.cells cs):=by rw [←get?_eq,hgetH x0 j hj,get?_eq,h1]
  obtain ⟨bb,arr,ty,e,_⟩:=hC0.ok.hr.rep j _ _ (aB (by omega)) hx;rw [e];rfl
 have hv:=bJ hC hg;rw [hgv] at hv;obtain ⟨cs,hfc,ib,hcr⟩:∃cs:Array Value,J2 f (a.eval g) cs∧cs.size=caps.length∧∀(i:Nat) (x:V),caps[i]? = some x→dV G w ρ (cs.getD i undef) x:=by
  generalize a.eval g=v at hv;cases hv with
  |o h=>cases h with
   |c h=>cases h with
    |k h=>cases h
    |fc _ _ cs _ g1 g2 g3=>exact ⟨cs,g1,g2,g3⟩
 have hfv:=xY hfc hf;have hmem:∀(i:Nat) (x:V),caps[i]? = some x→∀j∈ir x,j∈ids:=λi x hx j hj=>cO.1 (c3 j (aQ.2 ⟨x,aH hx,hj⟩));have hcr0:∀(i:Nat) (x:V),caps[i]? = some x→dV G w ρ0 (cs.getD i undef) x:=λi x hx=>(hcr i x hx).mono (λ_ h=>h) (λ_ _=>rfl) (λj hj=>hρ0' j (hmem i x hx j hj));have hcsl:∀(i:Nat) (x:V),caps[i]? = some x→NN x=false:=λi x hx=>by
  have:=aT.1 hcs x (aH hx);simpa using this
 refine wpIn_rangeFunc λfn _=>?_;obtain ⟨l,dd,mark,w1,rec,E1,hent,hrec,hl,hlw,hgr,hM,hC1⟩:=uP (P:=P) hrd hC0 fn ps ca cb;refine ⟨l,mark,w1,{ target:=.fn (.func f) cs,args:= #[.func (.yield l) #[] #[]] },w1,f,#[.func (.yield l) #[] #[]]++cs,w1,hent,?_,λ_ _=>trivial,?_,Fw.depth _ _,?_⟩
 ·simp only [resolve,hfv];simp [go_sem]
 ·have:=gI (P:=P) (w:=w1) (as:= #[.func (.yield l) #[] #[]]++cs) hI.ok;simp [invoke,go_sem,this]
 have hSt0:l8 G w ρ0 G w1 ρ0:=⟨λb hb=>⟨hb,hgr.h_ b (hC0.ok.hr.gl b hb)⟩,λ_ _ h _=>h⟩
 have hE1w:E1.w=E.w:=hM.ew;have hEl:E1.w.heap.size≤l:=by rw [hE1w];exact aZ hC.ok.size hlw
 have hEG:¬E1.G l:=by
  rw [hM.eG];intro h1;have:=hC.ok.hr.gl l (hC.ok.gm l h1);omega
 generalize ha':({ a with defers:=mark++a.defers }:Act)=a' at *;have ha't:a'.tmps=a.tmps:=by rw [←ha']
 have hrunI:=hI.run (ids.map λj=>(ρ0[j]?).getD undef) cs.toList l
  (λi W=>∃(x:A) (G':Nat→Prop) (ρ':List Value),I i x∧au E1 n G' ρ' T0 (Hs x) a' W∧l8 G w1 ρ0 G' W ρ'∧W.heap[l]? = some (.loop rec))
  (λW=>∃(c:Code) (G':Nat→Prop) (ρ':List Value) (h':H),au E1 n G' ρ' T0 h' a' W∧W.heap[l]? = some (.loop { rec with state:=.done,pending:=some c })∧((c = .ret∧K .ret T0 h')∨∃j,c = .exit j∧K (.ext j) T0 h'))
  (by simpa using ib) ?_ ?_ ?_ ?_ w1 ⟨x0,G,ρ0,B6,hC1,.refl,hl⟩
 ·have hrun2:CallsIn (Fw r) (N - 1) P f (#[.func (.yield l) #[] #[]]++cs) w1 _:=uW (uD (by rw [dC] at hrunI;exact hrunI));refine hrun2.mono ?_
  rintro e W ⟨⟨v,rfl⟩,⟨x,G',ρ',hi,hc,hs,hlr⟩ | ⟨c,G',ρ',h',hc,hlr,hj⟩⟩
  ·have hrc:C3 W l:=.inl ⟨_,hlr⟩;have hng:=hc.ok.ng hrc hEG;have hml:∀r∈E1.ms,r∈E1.ms∧r≠l:=λr hr=>⟨hr,λe=>by
    subst e;have:=(hc.ok.sN r hr).1;rw [hlr] at this;cases this⟩
   have hend:=run_endLoop (P:=P) hlr (by rw [hrec];simp);have hpe:rec.pending=none:=by rw [hrec]
   rw [hpe] at hend;refine ⟨none,_,hend,?_⟩
   ·exact ⟨E1,hM,nofun,G',ρ',T0,Hs x,⟨hc.ok.Gk hrc hEl hng hml _,hc.df,hc.sz,λi=>p8 (hc.tm i) hng _⟩,hD x hi⟩
  ·have hrc:C3 W l:=.inl ⟨_,hlr⟩;have hng:=hc.ok.ng hrc hEG;have hml:∀r∈E1.ms,r∈E1.ms∧r≠l:=λr hr=>⟨hr,λe=>by
    subst e;have:=(hc.ok.sN r hr).1;rw [hlr] at this;cases this⟩
   have hc2:∀o,au E1 n G' ρ' T0 h' a' (W.putObj l o):=λo=>⟨hc.ok.Gk hrc hEl hng hml _,hc.df,hc.sz,λi=>p8 (hc.tm i) hng _⟩
   refine ⟨some c,_,run_endLoop (P:=P) hlr (by simp),?_⟩;rcases hj with ⟨rfl,hj⟩ | ⟨j,rfl,hj⟩
   ·exact wpIn_ret ⟨E1,hM,nofun,G',ρ',T0,h',hc2 _,hj⟩
   ·exact wpIn_exit ⟨E1,hM,nofun,G',ρ',T0,h',hc2 _,hj⟩
 ·rintro i W W' ⟨x,G',ρ',hi,hc,hs,hlr⟩ hgw
  exact ⟨x,G',ρ',hi,hc.grow hgw (λ_ h=>h) (λ_ h=>.inl h),hs.trans ⟨λb hb=>⟨hb,hgw.h_ b (hc.ok.hr.gl b hb)⟩,λ_ _ h _=>h⟩,(hgw.h_ l (aN.1 hlr).1).trans hlr⟩
 ·rintro W W' ⟨c,G',ρ',h',hc,hlr,hj⟩ hgw
  exact ⟨c,G',ρ',h',hc.grow hgw (λ_ h=>h) (λ_ h=>.inl h),(hgw.h_ l (aN.1 hlr).1).trans hlr,hj⟩
 ·rintro i W ⟨x,G',ρ',_,hc,hs,hlr⟩
  have hρj:∀j∈ids,ρ'[j]? = ρ0[j]?:=λj hj=>by
   obtain ⟨u,h1,h2⟩:=hnsl j hj;rw [h1];exact hs.2 j u h1 h2
  have hlen:∀j∈ids,j<(Hs x).length:=λj hj=>by rw [(hH x).1];exact hid j hj
  have hcl2:∀j∈ids,∀y,(Hs x)[j]? = some y→∀k∈et y,k∈ids:=λj hj y hx k hk=>by
   have:=(c2 j hj).2 k;rw [←hgetH x j hj,get?_eq,hx] at this;exact cO.1 (this hk)
  obtain ⟨p1,_⟩:=hc.ok.hr.part (iQ c1) hlen hcl2;refine ⟨G',?_,λj y hx=>?_⟩
  ·have e1:(ids.map λj=>(ρ'[j]?).getD undef)=ids.map λj=>(ρ0[j]?).getD undef:=aj λj hj=>by rw [hρj j hj]
   have e2:(ids.map λj=>eb (pos ids) ((get? (Hs x) j).getD .no))=ids.map λj=>eb (pos ids) ((get? h j).getD .no):=aj λj hj=>by rw [hgetH x j hj]
   rw [e1,e2] at p1;exact p1
  ·rw [aC,aG] at hx;obtain ⟨y0,hx0,rfl⟩:=hx;have h1:=(hSt0.trans hs).VF (hcr0 j y0 hx0) (hcsl j y0 hx0);have h2:cs.toList.getD j undef=cs.getD j undef:=by simp []
   rw [h2];have h3:=h1.pT (ρ':=ids.map λj=>(ρ0[j]?).getD undef) (f:=pos ids) (λk hk=>by
    have hkm:=hmem j y0 hx0 k hk;obtain ⟨u,g1,_⟩:=hnsl k hkm;rw [aC,iO hkm,bA,hρj k hkm,g1];rfl)
   exact .o (.c (.k h3))
 ·rintro i row W hrow ⟨x,G',ρ',hi,hc,hs,hlr⟩
  have hrow2:=hxs row (aH hrow);have hy:=run_yield (P:=P) (args:=(row.map qt).toArray) hlr (by rw [hrec];simp [hrow2.1,hz]);have hfold:(ps.zip (row.map qt).toArray).foldl (λtmps (x:Tmp×Value)=>tmps.setIfInBounds x.1 x.2) a.tmps=(ps.toList.zip (row.map qt)).foldl (λt (p,v)=>t.setIfInBounds p v) a'.tmps:=by
   rw [ha't,←Array.foldl_toList,Array.toList_zip]
  have hy':(Instr.yield l (row.map qt).toArray).run P W = .ok (.round l fn ((ps.zip (row.map qt).toArray).foldl (λtmps (x:Tmp×Value)=>tmps.setIfInBounds x.1 x.2) a.tmps) ca cb) W:=by
   rw [hrec] at hy;exact hy
  refine ⟨fn,_,ca,cb,hy',?_⟩;have hb:=G0 (R:=λe W2=>(e = .returned (.bool true)∧∃(x:A) (G':Nat→Prop) (ρ':List Value),I (i+1) x∧au E1 n G' ρ' T0 (Hs x) a' W2∧l8 G w1 ρ0 G' W2 ρ'∧W2.heap[l]? = some (.loop rec))∨(e = .returned (.bool false) ∧
    ∃(c:Code) (G':Nat→Prop) (ρ':List Value) (h':H),au E1 n G' ρ' T0 h' a' W2∧W2.heap[l]? = some (.loop { rec with state:=.done,pending:=some c })∧((c = .ret∧K .ret T0 h')∨∃j,c = .exit j∧K (.ext j) T0 h')))
   (KB:=λe h=>match e with
    |.pj=>∃y,I (i+1) y∧lN h (Hs y)
    |.ext j=>K (.ext j) T0 h
    |.ret=>K .ret T0 h
    |.fm _=>False) ow hA hB hc hlr (by rw [hrec]) hEl hEG hs3 hps hrow2.2 (λ_ _ h=>h) (by rw [(hH x).1];exact hRd i row x hrow hi)
   (λG2 ρ2 h2 W2 g1 g2 g3 ⟨y,hy1,g4⟩=>by
    have hle:yw E1.h.length T0 (Hs y)=true:=by rw [hM.eh];exact (hH y).2.1
    obtain ⟨ρ3,e3,g5⟩:=g1.Td (by rw [hM.er,hM.eh];exact hE) g4 hle;refine .inl ⟨rfl,y,G2,ρ3,hy1,g5,⟨λb hb=>(hs.trans g3).1 b hb,λj u hj hu=>?_⟩,by rw [g2,hrec]⟩;have hjl:j<(Hs y).length:=by
     rw [(hH y).1,←(hH x0).1,←hC0.ok.hr.len];exact (aA.1 hj).1
    rw [e3,ae,ζ hjl];exact (hs.trans g3).2 j u hj hu)
   (λG2 ρ2 h2 W2 c g1 g2 g3=>.inr ⟨rfl,c,G2,ρ2,h2,g1,g2,g3⟩)
  refine roundIn_of_wpIn trivial ?_;show ca.wpIn (Fw (some l)) 0 P _ { tmps:=(ps.zip (row.map qt).toArray).foldl (λtmps (x:Tmp×Value)=>tmps.setIfInBounds x.1 x.2) a.tmps,defers:=[] } W;rw [hfold];exact hb
theorem Ru (hm:P.follows .mixedOrders=true):∀(c:Code) (x:C),comp P n c=some x→WK P ow n c x:=by
 intro c
 induction c with
 |skip=>
  intro x hx r N E hE hrd G ρ t h a w K hC hk;cases hx;exact wpIn_skip (.of ⟨G,ρ,t,h,hC,hk⟩)
 |region id ops draw=>
  intro x hx r N E hE hrd G ρ t h a w K hC hk;cases draw with
  |false=>
   simp only [comp] at hx;cases hnd:ops.toList.all BB with
   |false=>
    rw [hnd] at hx;cases hx;exact hk.elim
   |true=>
    rw [hnd,δ] at hx;simp only [aG] at hx;obtain ⟨is,his,rfl⟩:=hx;exact wpIn_mono (EN C4 (sL hnd) (Pp ow _ _ his G ρ t h a w hC hk)) λ_ _ _=>.of
  |true=>
   refine wpIn_mono (Pl ow hm hE hx hC λn0=>?_) λ_ _ _=>.of;simp only [comp] at hx;cases hnd:ops.toList.all BB with
   |false=>
    rw [hnd] at hx;cases hx;exact hk.elim
   |true=>
    rw [hnd,Bool.not_true,ε] at hx;simp only [aK,aD] at hx;obtain ⟨is,his,hx⟩:=hx;split at hx
    ·cases hx;exact hk
    ·cases hx;exact hk.elim
 |seq c d ih1 ih2=>
  intro x hx r N E hE hrd G ρ t h a w K hC hk;simp only [comp,aK,aD,aE] at hx;obtain ⟨y,hy,z,hz,rfl⟩:=hx;simp only [PF] at hk;refine wpIn_seq (wpIn_mono (ih1 y hy r N E hE hrd G ρ t h a w _ hC hk) λe a' w' hq=>?_);obtain ⟨E1,hM,hb1,G',ρ',t',h',hC',hk'⟩:=hq;have hb2:w_ (.seq c d)=true→E1=E:=λh=>hb1 (by simp only [w_,aP] at h;exact h.1);cases e with
  |normal=>
   refine wpIn_mono (ih2 z hz r N E1 (by rw [hM.er,hM.eh];exact hE) (hrd.mk hM) G' ρ' t' h' a' w' K hC' (by rw [hM.eh];exact hk')) λe a'' w'' hq=>?_;obtain ⟨E2,hM2,hb3,hq⟩:=hq;exact ⟨E2,hM.trans hM2,λh=>by simp only [w_,aP] at h;rw [hb3 h.2,hb1 h.1],hq⟩
  |exit id=>exact ⟨E1,hM,hb2,G',ρ',t',h',hC',hk'⟩
  |ret=>exact ⟨E1,hM,hb2,G',ρ',t',h',hC',hk'⟩
  |panic ch=>exact ⟨E1,hM,hb2,G',ρ',t',h',hC',hk'⟩
  |goto l=>exact hk'.elim
  |outgrown=>exact hk'.elim
 |cond c x y ih1 ih2=>
  intro z hz r N E hE hrd G ρ t h a w K hC hk;simp only [comp,aK,aD,aE] at hz;obtain ⟨oc,hoc,x',hx,y',hy,rfl⟩:=hz;simp only [K8] at hk;split at hk
  ·rename_i b hb;have hv:=(hb ▸ bJ hC hoc).bool;cases b
   ·exact wpIn_cond_false hv (wpIn_mono (ih2 y' hy r N E hE hrd G ρ t h a w K hC hk) λ_ _ _ ⟨E1,hM,hb1,hq⟩=>⟨E1,hM,λh=>hb1 (by simp only [w_,aP] at h;exact h.2),hq⟩)
   ·exact wpIn_cond_true hv (wpIn_mono (ih1 x' hx r N E hE hrd G ρ t h a w K hC hk) λ_ _ _ ⟨E1,hM,hb1,hq⟩=>⟨E1,hM,λh=>hb1 (by simp only [w_,aP] at h;exact h.1),hq⟩)
  ·exact hk.elim
 |block id c ih=>
  intro x hx r N E hE hrd G ρ t h a w K hC hk;simp only [comp,aK,aD,aE] at hx;obtain ⟨y,hy,rfl⟩:=hx;simp only [Fo] at hk;refine wpIn_block (wpIn_mono (ih y hy r N E hE hrd G ρ t h a w _ hC hk) λe a' w' hq=>?_);obtain ⟨E1,hM,hb1,G',ρ',t',h',hC',hk'⟩:=hq;cases e with
  |normal=>exact ⟨E1,hM,hb1,G',ρ',t',h',hC',hk'⟩
  |exit i=>
   simp only at hk';unfold Exit.inBlock;simp only
   by_cases e:i=id
   ·rw [ζ e];rw [e,fG] at hk';exact ⟨E1,hM,hb1,G',ρ',t',h',hC',hk'⟩
   ·rw [η e];rw [fy e] at hk';exact ⟨E1,hM,hb1,G',ρ',t',h',hC',hk'⟩
  |ret=>exact ⟨E1,hM,hb1,G',ρ',t',h',hC',hk'⟩
  |panic ch=>exact ⟨E1,hM,hb1,G',ρ',t',h',hC',hk'⟩
  |goto l=>exact hk'.elim
  |outgrown=>exact hk'.elim
 |loop c ih=>
  intro x hx r N E hE hrd G ρ t h a w K hC hk;simp only [comp,aK,aD,aE] at hx;obtain ⟨y,hy,rfl⟩:=hx;simp only [K7,lx] at hk;obtain ⟨A,I,S1,S2,m,x,⟨i1,i2,i3,i4⟩,hk⟩:=hk;obtain ⟨ρ1,_,hC1⟩:=hC.less hE i2 i3 i4;refine AR (λx a w=>I x∧∃E1 G ρ,mc E E1∧(w_ c=true→E1=E)∧au E1 n G ρ (S1 x) (S2 x) a w) m x ⟨i1,E,G,ρ1,.refl E,λ_=>rfl,hC1⟩ λx a w hI=>?_;obtain ⟨hI,E1,G,ρ,hM,hb,hC⟩:=hI;have hE1:E1.ρ.length=E1.h.length:=by rw [hM.er,hM.eh];exact hE
  refine wpIn_mono (ih y hy r N E1 hE1 (hrd.mk hM) G ρ _ _ a w _ hC (by rw [hM.eh];exact hk x hI)) λe a' w' hq=>?_;obtain ⟨E2,hM2,hb2,G',ρ',t',h',hC',hk'⟩:=hq;have hb3:w_ c=true→E2=E:=λh=>by rw [hb2 h,hb h]
  have hM3:=hM.trans hM2;cases e with
  |normal=>
   simp only [bo] at hk';obtain ⟨t',h',hC',z,z1,z2,z3,z4,z5⟩:=Q8 hC' hk';obtain ⟨ρ2,_,hC2⟩:=hC'.less (by rw [hM3.er,hM3.eh];exact hE) z3 z4 (by rw [hM3.eh];exact z5);exact ⟨z,⟨z1,E2,G',ρ2,hM3,hb3,hC2⟩,z2⟩
  |exit i=>exact ⟨E2,hM3,hb3,G',ρ',t',h',hC',hk'⟩
  |ret=>exact ⟨E2,hM3,hb3,G',ρ',t',h',hC',hk'⟩
  |panic ch=>exact ⟨E2,hM3,hb3,G',ρ',t',h',hC',hk'⟩
  |goto l=>exact hk'.elim
  |outgrown=>exact hk'.elim
 |exit id=>
  intro x hx r N E hE hrd G ρ t h a w K hC hk;cases hx;exact wpIn_exit (.of ⟨G,ρ,t,h,hC,hk⟩)
 |ret=>
  intro x hx r N E hE hrd G ρ t h a w K hC hk;cases hx;exact wpIn_ret (.of ⟨G,ρ,t,h,hC,hk⟩)
 |rangeFunc g ps ca cb ih1 ih2=>
  intro x hx r N E hE hrd G ρ t h a w K hC hk;simp only [comp] at hx;cases hcnd:Nat.ble P.funcs.size 5000000&&ps.toList.all (λp=>Nat.blt p n) with
  |false=>rw [hcnd] at hx;cases hx;exact hk.elim
  |true=>
   rw [hcnd,δ] at hx;simp only [aP,aT] at hcnd;split at hx
   ·rename_i og hg;simp only [aK,aD,aE] at hx;obtain ⟨xa,hxa,xb,hxb,rfl⟩:=hx;exact SR ow hE hrd (ih1 xa hxa) (ih2 xb hxb) hg (λp hp=>(dQ ..).mp (hcnd.2 p hp)) (a_ hcnd.1) rfl hC hk
   ·cases hx;exact hk.elim
 |_=>
  intro x hx r N E hE hrd G ρ t h a w K hC hk;cases hx;exact hk.elim
theorem Fl (hm:P.follows .mixedOrders=true) (hE:E.ρ.length=E.h.length) (c:Code) (x:C) (hx:comp P n c=some x) (G:Nat→Prop) (ρ:List Value) (t:T) (h:H) (a:Act) (w:World) (K:Ex→T→H→Prop) (hC:au E n G ρ t h a w)
  (hk:wx (Sat P) ow E.h.length x t h K):c.wpIn (Fw none) 0 P (QM (w_ c) E n K) a w:=
 Ru ow hm c x hx none 0 E hE (.none E) G ρ t h a w K hC hk
theorem Fm (hm:P.follows .mixedOrders=true) (hE:E.ρ.length=E.h.length) (c:Code) (x:C) (hx:comp P n c=some x) (hr:w_ c=true) (G:Nat→Prop) (ρ:List Value) (t:T) (h:H) (a:Act) (w:World) (K:Ex→T→H→Prop) (hC:au E n G ρ t h a w)
  (hk:wx (Sat P) ow E.h.length x t h K):c.wp P (QK E n K) a w:=
 wpIn_wide.1 (wpIn_mono (Fl ow hm hE c x hx G ρ t h a w K hC hk) λ_ _ _ hq=>by rw [hr] at hq;exact hq.qk)
end
section
variable {P:Program} {E:gR} {n:Nat} {G:Nat→Prop} {ρ:List Value} {t:T} {h:H} {a:Act} {w:World} (ow:Nat→Bool)
theorem Ok.refl (hr:HR G w ρ h):Ok ⟨w,G,ρ,h,[],[]⟩ G w ρ h:=
 ⟨hr,λ_ h=>h,λ_ h=>.inl h,λ_ h=>.inr h,λ_ _ _=>rfl,aR _,rfl,rfl,rfl,λ_ _ h _=>h,aR _,λ_ h=>nomatch h⟩
theorem Ok.part (hO:Ok E G w ρ h) (hE:E.ρ.length=E.h.length) {ids:List Nat} (hn:ids.Nodup) (hlt:∀i∈ids,i<h.length) (ib:∀i∈ids,∀x,h[i]? = some x→∀j∈et x,j∈ids) (hp:ids.take E.h.length=List.range E.h.length) :
  Ok E G w (ids.map λi=>(ρ[i]?).getD undef) (ids.map λi=>eb (pos ids) ((get? h i).getD .no)):=by
 obtain ⟨h1,h2⟩:=hO.hr.part hn hlt ib;have h3:∀b,own (ids.map λi=>(ρ[i]?).getD undef) (ids.map λi=>eb (pos ids) ((get? h i).getD .no)) b→own ρ h b:=λb hb=>by
  obtain ⟨i,v,x,_,g1,g2,g3,g4⟩:=h2 b hb;exact ⟨i,v,x,g1,g2,g3,g4⟩
 have hle:E.h.length≤ids.length:=by
  have:=κ List.length hp;simp at this;omega
 refine ⟨h1,hO.gm,hO.go,λb hb=>hO.oo b (h3 b hb),hO.frame,hO.size,hO.os,hO.tape,hO.out,λi v hv hs=>?_,by simpa using hle,λr hr=>let ⟨g1,g2,g3⟩:=hO.sN r hr;⟨g1,g2,λg4=>g3 (h3 r g4)⟩⟩;have hi:i<E.h.length:=by have:=(aA.1 hv).1;omega
 have hid:ids[i]? = some i:=by
  have:(ids.take E.h.length)[i]? = some i:=by rw [hp,cG hi]
  rwa [ae,ζ hi] at this
 rw [aC,hid,bA,hO.hand i v hv hs];rfl
theorem TY {v:Value} {x:V} (hv:dV G w ρ v x):dV G w ρ v (T1 x):=by
 cases hv with
 |nl z=>exact .d (.yA z)
 |cl a n z rows h=>exact .cl a n z rows h
 |un=>exact .un _
 |ud=>exact .ud
 |d h=>exact .d h
 |p id off b h=>exact .p id off b h
 |e b o off row U h1 h2 h3=>exact .e b o off row U h1 h2 h3
 |os id a n c h=>exact .os id a n c h
 |q id z i off b n c h=>exact .q id z i off b n c h
 |mp id r h=>exact .mp id r h
 |ov id z i _ a n c h hv=>exact .ov id z i _ a n c h hv
 |it id r m h=>exact .it id r m h
theorem TZ {v:Value} {x:V} (hv:dP G w ρ v x):dP G w ρ v (T1 x):=by
 cases hv with
 |k h=>exact .k (TY h)
 |fc f u cs caps h0 h1 h2=>exact .fc f _ cs caps h0 h1 h2
theorem QY {v:Value} {x:V} (hv:bB G w ρ v x):bB G w ρ v (QZ x):=by
 cases hv with
 |o h=>cases h with
  |c h=>
   have:QZ x=T1 x:=by
    cases h with
    |k h=>cases h<;>rfl
    |fc=>rfl
   rw [this];exact .o (.c (TZ h))
  |ag cs vs h1 h2=>
   refine .o (.ag cs _ (by simpa using h1) (λi x hx=>?_));rw [aC] at hx;cases hc:vs[i]? with
   |none=>rw [hc] at hx;cases hx
   |some x0=>rw [hc] at hx;cases hx;exact x6 (h2 i x0 hc)
 |tu cs vs h1 h2=>exact .tu cs vs h1 h2
def M_ (G:Nat→Prop) (w:World) (ρ:List Value) (U:Nat→Value) (vs:List V):Prop:=
 ∀(i:Nat) (x:V),vs[i]? = some x→bB G w ρ (U i) x
theorem Ce {id:Nat} {y:D} {x:V} (h:v7 x=true):v7 (Dy id (.d y) x)=true:=by
 cases x with
 |tu=>cases h
 |os j=>
  show v7 (bif Nat.beq j id then V.d y else V.os j)=true;cases Nat.beq j id<;>rfl
 |p j o=>
  show v7 (bif Nat.beq j id then S0 (.d y) j o else .p j o)=true;cases Nat.beq j id
  ·rfl
  ·show v7 (S0 (.d y) j o)=true;unfold S0;split
   ·rename_i off _;cases Nat.beq off 0<;>rfl
   ·rfl
 |_=>rfl
theorem QT {x:V} (h:v7 x=true):v7 (QZ x)=true:=by
 cases x<;>simp_all [v7,QZ,T1]
theorem QS {f:Nat→Nat} {x:V} (h:v7 x=true):v7 (gb f x)=true:=by
 cases x<;>simp_all [v7,gb,pS,tB,wj]
theorem JR {K:T→H→List V→Prop}:∀(ids:List Nat) (t:T) (h:H) (vs:List V),vs.all v7=true→uI ids t h vs K→uI ids t h vs λt h vs=>vs.all v7=true∧K t h vs:=by
 intro ids
 induction ids with
 |nil=>intro t h vs hv hk;exact ⟨hv,hk⟩
 |cons id ids ih=>
  intro t h vs hv hk;simp only [vu,DF] at hk ⊢;split at hk
  ·rename_i z rs hg;simp only [pK,j2,gE] at hk ⊢;refine ih _ _ _ ?_ hk;simp only [List.all_map,aT] at hv ⊢;exact λx hx=>Ce (hv x hx)
  ·split at hk
   ·simp only [pK,j2,gE] at hk ⊢;refine ih _ _ _ ?_ hk;simp only [List.all_map,aT] at hv ⊢;exact λx hx=>Ce (hv x hx)
   ·exact hk.elim
  ·exact hk.elim
theorem Qu {b:Nat} (x:B) (h:b∈gh (M0 x)):b∈gh x:=by
 cases x with
 |di=>cases h
 |ms z es out it=>simp only [M0,gh,Nk,cU] at h;simp only [gh,aS];exact .inl h
 |_=>exact h
theorem Br {x:B} (h:M0 x≠.no):x≠.no:=λe=>h (by rw [e];rfl)
theorem au.XH (hC:au E n G ρ t h a w):au E n G ρ t (h.map M0) a w:=by
 have get:∀(i:Nat) (y:B),(h.map M0)[i]? = some y→∃x,h[i]? = some x∧y=M0 x:=λi y hy=>by
  rw [aC,aG] at hy;obtain ⟨x,hx,e⟩:=hy;exact ⟨x,hx,e.symm⟩
 have bk:∀{v:Value} {x:B} {b:Nat},b∈e9 v (M0 x)→b∈e9 v x:=λhb=>(bT.1 hb).elim (λh=>bT.2 (.inl h)) λh=>bT.2 (.inr (Qu _ h));refine ⟨hC.ok.view (ρ':= ρ) (λ_ _ h=>h) (by simp [hC.ok.hr.len]) (by simp) (λi v y h1 h2 h3=>?_) (λi v y b h1 h2 h3 h4=>?_),hC.df,hC.sz,hC.tm⟩
 ·obtain ⟨x,hx,rfl⟩:=get i y h2;have:=hC.ok.hr.rep i v x h1 hx;cases x with
  |di es r l=>exact this.1
  |ms z es out it=>exact ⟨this.1,trivial⟩
  |_=>exact this
 ·obtain ⟨x,hx,rfl⟩:=get i y h2;refine ⟨i,v,x,h1,hx,Br h3,bk h4,λi' v' y' g1 g2 g3 g4=>?_⟩;obtain ⟨x',hx',rfl⟩:=get i' y' g2;exact hC.ok.hr.nW i' i v' v x' x b g1 hx' (Br g3) h1 hx (Br h3) (bk g4) (bk h4)
theorem Bl {K:KT} (hC:au E n G ρ t h a w) (hE:E.ρ.length=E.h.length) {keep:Bool} {vs:List V} {U:Nat→Value} (hU:M_ G w ρ U vs) (hk:fin keep E.h.length vs t h K) :
  ∃(G':Nat→Prop) (ρ':List Value) (h':H) (us:List V),Ok E G' w ρ' h'∧us.length=vs.length∧us.all v7=true∧M_ G' w ρ' U us∧K (outs us) h':=by
 obtain ⟨hnt,hk⟩:=hk;simp only [bo,gE,Bk] at hk;have hU1:M_ G w ρ U (vs.map QZ):=λi x hi=>by
  rw [aC] at hi;cases hc:vs[i]? with
  |none=>rw [hc] at hi;cases hi
  |some x0=>rw [hc] at hi;cases hi;exact QY (hU i x0 hc)
 have hnt1:(vs.map QZ).all v7=true:=by
  simp only [List.all_map,aT] at hnt ⊢;exact λx hx=>QT (hnt x hx)
 obtain ⟨G',t',h',vs',hC',hl,hU',hnt',hk'⟩:=sS _ G t h _ U hC hU1 (JR _ _ _ _ hnt1 hk);rw [aI] at hl;obtain ⟨t',h',hC',hk'⟩:=wR _ hC' hk'
 replace hC':=hC'.XH
 generalize h'.map M0=h' at hC' hk';split at hk'
 ·rename_i hn0 hid;have hO:=hC'.ok.part hE (ids:=[]) (by simp) (by simp) (by simp) (by simp [hn0]);refine ⟨G',_,_,vs',hO,hl,hnt',λi x hi=>?_,hk'⟩;have:=hU' i x hi;have hx:eR x = []:=(cA.1 hid) x (aH hi);have h1:=this.pT (ρ':=([]:List Value)) (f:=λi=>i) (λj hj=>by rw [hx] at hj;cases hj);rwa [Ak hx] at h1
 ·generalize reach h' 100 _ _=ids at hk';obtain ⟨hchk,hpre,hk'⟩:=hk';simp only [aP,aT] at hchk;obtain ⟨⟨c1,c2⟩,c3⟩:=hchk;have hlt:∀i∈ids,i<h'.length:=λi hi=>(dQ ..).mp (c2 i hi).1;have ib:∀i∈ids,∀x,h'[i]? = some x→∀j∈et x,j∈ids:=λi hi x hx j hj=>by
   have:=(c2 i hi).2 j;rw [get?_eq,hx] at this;exact cO.1 (this hj)
  have hO:=hC'.ok.part hE (iQ c1) hlt ib hpre;refine ⟨G',_,_,vs'.map (gb (pos ids)),hO,by simpa using hl,?_,λi x hi=>?_,hk'⟩
  ·simp only [List.all_map,aT] at hnt' ⊢;exact λx hx=>QS (hnt' x hx)
  ·rw [aC] at hi;cases hc:vs'[i]? with
   |none=>rw [hc] at hi;cases hi
   |some x0=>
    rw [hc] at hi;cases hi;refine (hU' i x0 hc).pT λj hj=>?_;have hjm:j∈ids:=cO.1 (c3 j (by rw [aQ];exact ⟨x0,aH hc,hj⟩));have hjl:=hlt j hjm;rw [aC,iO hjm,bA,aB (by rw [hC'.ok.hr.len];exact hjl)];rfl
def Pr (a:Act):ResultVar→Sem Value
 |.tmp t=>pure (a.tmps.getD t undef)
 |.cell b t=>do loadVar t (←asAddr (a.tmps.getD b undef))
def U5 (P:Program):ResultVar→Option RV
 |.tmp t=>some (.s t)
 |.cell a t=>(u_ P t).map (.c a)
theorem Pe (hC:au E n G ρ t h a w) {r:ResultVar} {x:RV} (hx:U5 P r=some x) {K:V→Prop} (hk:U4 x t h K) :
  ∃(u:Value) (v:V),(Pr a r).run P w = .ok u w∧bB G w ρ u v∧K v:=by
 cases r with
 |tmp i=>
  cases hx;exact ⟨_,_,rfl,hC.tm i,hk⟩
 |cell b ty=>
  simp only [U5,aG] at hx;obtain ⟨m,hl,rfl⟩:=hx;have hv:=hC.tm b;simp only [U4] at hk;split at hk
  ·rename_i id off hg;rw [hg] at hv;obtain ⟨bb,hp,hρ⟩:=hv.pt;rw [get?_eq] at hk;split at hk
   ·rename_i cs hcs;obtain ⟨b',arr,ty',hb,h1,h2,h3⟩:=hC.ok.hr.rep id _ _ hρ hcs;simp only [Value.pointer.injEq,aE,Addr.mk.injEq,ω] at hb;obtain ⟨rfl,_⟩:=hb;cases m with
    |none=>
     simp only [get?_eq] at hk;split at hk
     ·rename_i v hvv;have hol:off<arr.size:=by rw [h2];exact (aA.1 hvv).1
      have hcell:w.cell? ⟨bb,off,none⟩=some arr[off]:=by rw [dO h1];exact aJ hol
      refine ⟨arr[off],v,?_,?_,hk⟩
      ·simp [Pr,hp,asAddr,tn hl,hcell]
      ·have:=h3 off v hvv;exact .o (.c (by simpa [aF,hol] using this))
     ·exact hk.elim
    |some k=>
     simp only [bo] at hk;have hlen:=jf hk.1;have hlen':k≤cs.length - off:=by
      have:=hlen;simp at this;omega
     have hrun:=ti (w:=w) hl ⟨bb,off,none⟩ ((List.range k).map λj=>arr.getD (off+j) undef) (by simp) (λj v hv=>by
      rw [eI,dO h1];simp only [aC,aG] at hv;obtain ⟨j',hj',rfl⟩:=hv;have hjl:j<k:=by
       have:=(aA.1 hj').1;simpa using this
      rw [cG hjl] at hj';cases hj';have hol:off+j<arr.size:=by omega
      rw [aF,aJ hol];rfl)
     refine ⟨_,_,by simp [Pr,hp,asAddr,hrun];rfl,.o (.ag _ _ (by simpa using hlen.symm) (λj y hy=>?_)),hk.2⟩;have hj:j<k:=by rw [←hlen];exact (aA.1 hy).1
     rw [ae,ζ hj,aw] at hy;have hol:off+j<arr.size:=by rw [h2];exact (aA.1 hy).1
     have:=h3 (off+j) y hy;simpa [aF,hol,hj] using this
   ·exact hk.elim
  ·exact hk.elim
theorem GX (hC:au E n G ρ t h a w):∀(rs:List ResultVar) (xs:List RV),rs.mapM (U5 P)=some xs→∀(K:List V→Prop),NP xs t h K →
    ∃(us:List Value) (vs:List V),(rs.mapM (Pr a)).run P w = .ok us w ∧
      us.length=vs.length∧M_ G w ρ (λi=>us.getD i undef) vs∧K vs:=by
  intro rs
  induction rs with
  |nil=>
    intro xs hm K hk
    simp at hm
    subst hm
    exact ⟨[],[],by simp,rfl,λi x hi=>by simp at hi,hk⟩
  |cons r rs ih=>
    intro xs hm K hk
    simp only [gJ,aK,aD,jW,aE] at hm
    obtain ⟨x,hx,ys,hys,rfl⟩:=hm
    simp only [GY] at hk
    obtain ⟨u,v,g1,g2,g3⟩:=Pe hC hx hk
    obtain ⟨us,vs,k1,k2,k3,k4⟩:=ih ys hys _ g3
    refine ⟨u :: us,v :: vs,?_,by simp [k2],λi x hi=>?_,k4⟩
    · rw [gJ,Sem.run_bind,g1,Result.andThen_ok,Sem.run_bind,k1,Result.andThen_ok]
      rfl
    · cases i with
      |zero=>simp at hi;subst hi;simpa using g2
      |succ i=>simpa using k3 i x (by simpa using hi)
theorem CZ {fn:Func}:Am P fn=fn.results.toList.mapM (U5 P):=by
 unfold Am;congr 1
theorem tD {fn:Func}:results fn a.tmps=(do let vs ←fn.results.mapM (Pr a);pure (if h:vs.size=1 then vs[0] else .tuple vs)):=by
 unfold results;congr 1
theorem B9:∀(vs:List V) (k i:Nat),gs (Fe k vs) i=if k≤i then (vs[i - k]?).getD .un else .un:=by
 intro vs
 induction vs with
 |nil=>intro k i;simp [Fe,Qj]
 |cons v vs ih=>
  intro k i;simp only [Fe,gP]
  by_cases e:k=i
  ·subst e;simp
  ·rw [fy e,ε,ih]
   by_cases hk:k+1≤i
   ·rw [ζ hk,ζ (by omega)];have:i - k=(i - (k+1))+1:=by omega
    rw [this,ep]
   ·rw [η hk,η (by omega)]
theorem Ok.ds {d1 d2:List Deferred} {m:List Nat} (hO:Ok { E with ds:=d1,ms:=m } G w ρ h):Ok { E with ds:=d2,ms:=m } G w ρ h:=
 ⟨hO.hr,hO.gm,hO.go,hO.oo,hO.frame,hO.size,hO.os,hO.tape,hO.out,hO.hand,hO.hl,hO.sN⟩
theorem tY {F:Fence} {N:Nat} {fn:Func} {tmps:Array Value} {R:Ending→World→Prop} {u:FrameMode} (hu:u≠.run):∀(l:List Nat) (w:World),l.Nodup→(∀r∈l,E.w.heap.size≤r)→Ok { E with ds:=[],ms:=l } G w ρ h →
  (∀w',Ok { E with ds:=[],ms:=[] } G w' ρ h→(∀v x,bB G w ρ v x→bB G w' ρ v x)→LeavesIn F N P fn tmps R [] u w')→LeavesInM F N P fn tmps R (l.map T3) u w:=by
 intro l
 induction l with
 |nil=>intro w _ _ hO hk;exact hk w hO λ_ _ h=>h
 |cons r l ih=>
  intro w hn hs hO hk;obtain ⟨hn1,hn2⟩:=cr.1 hn;obtain ⟨g1,g2,_⟩:=hO.sN r (by simp);refine ⟨hu,.inl ⟨r,_,rfl,run_takeDeferred g1,ih _ hn2 (λx hx=>hs x (by simp [hx])) (hO.Gk (.inr ⟨_,g1⟩) (hs r (by simp)) g2 (λx hx=>⟨by simp [hx],λe=>hn1 (e ▸ hx)⟩) _) λw' hO' hr=>hk w' hO' λv x hv=>hr v x (p8 hv g2 _)⟩⟩
theorem EE {f:Nat} {fn:Func} {c:Code} {x:C} {rs:List RV} {keep:Bool} {vs:List V} {K:KT} (hm:P.follows .mixedOrders=true) (hf:P.funcs[f]? = some fn) (hname:(fn.name != "runtime.NumGoroutine")=true) (hb:fn.body=some c)
  (hx:comp P fn.ntmps c=some x) (hr:Am P fn=some rs) (hl:Nat.ble vs.length fn.ntmps=true) (hk:fx (Sat P) ow keep x rs vs h K):Sat P f vs h K:=by
 have hl:=a_ hl;refine .inl ⟨by simp [fF,hf,hname,hb],λG w ρ as hR hlen hv=>uD (r:=none) (N:=0) (callsIn_of_wp_marks hf hb (Fw.fn none f) ?_)⟩;have hC:au ⟨w,G,ρ,h,[],[]⟩ fn.ntmps G ρ (Fe 0 vs) h { tmps:=as.toArray++Array.replicate (fn.ntmps - as.toArray.size) undef,defers:=[] } w:=by
  refine ⟨Ok.refl hR,rfl,by simp;omega,λi=>?_⟩;rw [B9,ζ (ah _),Nat.sub_zero];cases hc:vs[i]? with
  |none=>exact .k (.un _)
  |some v=>
   have hil:i<vs.length:=(aA.1 hc).1;have:=hv i v hc;rw [aW,aB (by omega)] at this;rw [aF,cW (by simp;omega)];simpa [hlen,hil] using this
 have hE:(⟨w,G,ρ,h,[],[]⟩:gR).ρ.length=(⟨w,G,ρ,h,[],[]⟩:gR).h.length:=hR.len;have norm:∀(G':Nat→Prop) (ρ':List Value) (t':T) (h':H) (a':Act) (w':World),au ⟨w,G,ρ,h,[],[]⟩ fn.ntmps G' ρ' t' h' a' w'→(NP rs t' h' λvs=>fin keep h.length vs t' h' K) →
   ∃v,(results fn a'.tmps).run P w' = .ok v w'∧∃(G'':Nat→Prop) (ρ'':List Value) (h'':H) (out:Out),Ok ⟨w,G,ρ,h,[],[]⟩ G'' w' ρ'' h''∧NB G'' w' ρ'' (.returned v) out∧K out h'':=by
  intro G' ρ' t' h' a' w' hC' hk';obtain ⟨us,vs',g1,g2,g3,g4⟩:=GX hC' _ _ (CZ ▸ hr) _ hk';obtain ⟨G'',ρ'',h'',us',k1,k2,k3,k4,k5⟩:=Bl hC' hE g3 g4;have harr:(fn.results.mapM (Pr a')).run P w' = .ok us.toArray w':=by
   rw [←dC (xs:=fn.results),List.mapM_toArray];rw [map_eq_pure_bind,Sem.run_bind,g1,Result.andThen_ok];rfl
  refine ⟨if h:us.toArray.size=1 then us.toArray[0] else .tuple us.toArray,?_,G'',ρ'',h'',_,k1,?_,k5⟩
  ·rw [tD,Sem.run_bind,harr,Result.andThen_ok];rfl
  ·by_cases h1:us.length=1
   ·obtain ⟨u,rfl⟩:=eM.1 h1;obtain ⟨v,rfl⟩:=eM.1 (show us'.length=1 by omega);exact ⟨u,rfl,by simpa using k4 0 v rfl⟩
   ·rw [dif_neg (by simpa using h1)];have:outs us' = .ret (.tu us'):=by
     match us',(show us'.length≠1 by omega) with
     |[],_=>rfl
     |[_],h=>exact absurd rfl h
     |_ :: _ :: _,_=>rfl
    rw [this];refine ⟨_,rfl,.tu _ _ (by simp;omega) (λi x hi=>?_)⟩;have h2:=k4 i x hi;have h3:v7 x=true:=(aT.1 k3) x (aH hi);have h4:(us.toArray).getD i undef=us.getD i undef:=by
     rw [aF,aW];simp
    rw [h4];simp only at h2;generalize us.getD i undef=u at h2;cases h2 with
    |o h=>exact h
    |tu=>simp [v7] at h3
 refine wpIn_mono (Fl ow hm hE c x hx G ρ _ h _ w _ hC hk) λe a' w' hq=>?_;obtain ⟨E1,⟨l,rfl,hnd,hsz⟩,_,G',ρ',t',h',hC',hk'⟩:=hq;have hdf:a'.defers=l.map T3:=by rw [hC'.df];simp
 have hn:l.Nodup:=by simpa using hnd n6
 have hO:Ok { (⟨w,G,ρ,h,[],[]⟩:gR) with ds:=[],ms:=l } G' w' ρ' h':=by
  have:=hC'.ok;simp only [cU] at this;exact this.ds
 have go:∀w'',Ok { (⟨w,G,ρ,h,[],[]⟩:gR) with ds:=[],ms:=[] } G' w'' ρ' h'→(∀v x,bB G' w' ρ' v x→bB G' w'' ρ' v x)→au ⟨w,G,ρ,h,[],[]⟩ fn.ntmps G' ρ' t' h' { a' with defers:=[] } w'':=
  λw'' h1 h2=>⟨h1,rfl,hC'.sz,λi=>h2 _ _ (hC'.tm i)⟩
 cases e with
 |normal=>
  show LeavesInM _ _ _ _ _ _ a'.defers _ _;rw [hdf];exact tY (u:=.returning) (λe=>by cases e) l w' hn hsz hO λw'' h1 h2=>norm G' ρ' t' h' { a' with defers:=[] } w'' (go w'' h1 h2) hk'
 |ret=>
  show LeavesInM _ _ _ _ _ _ a'.defers _ _;rw [hdf];exact tY (u:=.returning) (λe=>by cases e) l w' hn hsz hO λw'' h1 h2=>norm G' ρ' t' h' { a' with defers:=[] } w'' (go w'' h1 h2) hk'
 |panic ch=>
  obtain ⟨v,v',rfl,hv',hk'⟩:=hk';show LeavesInM _ _ _ _ _ _ a'.defers _ _;rw [hdf];refine tY (u:=.panicking [{ v:=v',recovered:=false }]) (λe=>by cases e) l w' hn hsz hO λw'' h1 h2=>?_;obtain ⟨G'',ρ'',h'',us',k1,k2,k3,k4,k5⟩:=Bl (go w'' h1 h2) hE (U:=λ_=>v') (vs:=[v]) (λi x hi=>by
   cases i with
   |zero=>simp at hi;subst hi;exact h2 _ _ hv'
   |succ i=>simp at hi) hk'
  obtain ⟨u,rfl⟩:=eM.1 (show us'.length=1 by simpa using k2);exact ⟨G'',ρ'',h'',.fm u,k1,⟨v',rfl,k4 0 u rfl⟩,k5⟩
 |exit id=>exact hk'.elim
 |goto l=>exact hk'.elim
 |outgrown=>exact hk'.elim
end
end Go.Vx
