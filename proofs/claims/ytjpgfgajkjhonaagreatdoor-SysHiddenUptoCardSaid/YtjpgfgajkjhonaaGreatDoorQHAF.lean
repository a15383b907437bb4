/- Lemmas. Conditions: none. -/
import Derived.Test.YtjpgfgajkjhonaaGreatDoorQHAE
namespace Go.Vx
section
variable {P:Program} {E:gR} {n:Nat} {G:Nat→Prop} {ρ:List Value} {t:T} {h:H} {a:Act} {w:World} {o:Oper} {b7:Act→World→Prop} {Q:Exit→Act→World→Prop} {K KP:V→T→H→Prop}
variable (S:Nat→List V→H→(Out→H→Prop)→Prop) (ow:Nat→Bool)
theorem MW {ty e:TypeId} (hu:P.underlying ty=some (.slice e)):P.underlying ty=some (.slice (P.elem ty)):=by
 rw [hu];simp [Program.elem,hu]
theorem bw.part {ad:Option Addr} {len cap z l u m:Nat} {rows:List (List D)} (hD:bw G w (.slice ad len cap) (.sl z rows)) (h1:l≤u) (h2:u≤rows.length) (h3:u≤m) (h4:m≤cap) :
  bw G w (sliced ad l u m z) (.sl z ((rows.take u).drop l)):=by
 have hlen:((rows.take u).drop l).length=u - l:=by simp;omega
 rcases hD.R9 with ⟨⟨a0,he⟩,rfl⟩ | ⟨b,o,c,U,he,g1,g2,g3,g4,g5,g6⟩
 ·simp only [Value.slice.injEq] at he;obtain ⟨rfl,_,rfl⟩:=he;simp at h2 h4;subst h2;have hl0:l=0:=by omega
  have hm0:m=0:=by omega
  subst hl0 hm0;have:sliced ad 0 0 0 z = .slice ad 0 0:=by cases ad<;>simp [sliced]
  rw [this];simpa using bw.emp ad z
 ·simp only [Value.slice.injEq] at he;obtain ⟨rfl,rfl,rfl⟩:=he
  by_cases hml:m=l
  ·have hul:u=l:=by omega
   subst hul;have hnil:(rows.take u).drop u = []:=fH (by simp;omega);rw [hnil];have:=bw.sl (G:=G) (w:=w) b o 0 z [] (λ_ _=>undef) (by simp) (by simp) g3 (by simp) (by simp) (by simp);simpa [sliced,hml] using this
  ·have hv:sliced (some ⟨b,o,none⟩) l u m z = .slice (some ⟨b,o+l*z,none⟩) ((rows.take u).drop l).length (m - l):=by
    rw [hlen];simp [sliced,hml,eI]
   rw [hv];have get:∀(i:Nat) (row:List D),((rows.take u).drop l)[i]? = some row→rows[l+i]? = some row:=by
    intro i row hr;rw [aw,ae] at hr;split at hr
    ·exact hr
    ·cases hr
   refine .sl b _ _ z _ (λi j=>U (l+i) j) (by rw [hlen];omega) (by omega) g3 (λi row hr=>g4 _ _ (get i row hr)) (λi row j x hr hx=>?_) (λi row j x hr hx=>g6 _ _ _ _ (get i row hr) hx);rw [←g5 _ _ _ _ (get i row hr) hx,bq];congr 2;omega
theorem wy (hC:au E n G ρ t h a w) {v:Value} {id z:Nat} {r:List (List D)} (hv:bB G w ρ v (.os id)) (hx:h[id]? = some (.rows z r)) :
  ∃ad c,v = .slice ad r.length c∧r.length≤c∧ρ[id]? = some (.slice ad r.length c):=by
 obtain ⟨ad,m,c,rfl,hρ⟩:=hv.QA;rcases hC.ok.hr.rep id _ _ hρ hx with ⟨he,rfl⟩ | ⟨b,cap,arr,ty,he,h1,h2,_⟩
 ·simp only [Value.slice.injEq] at he;obtain ⟨rfl,rfl,rfl⟩:=he;exact ⟨none,0,rfl,aR _,hρ⟩
 ·simp only [Value.slice.injEq] at he;obtain ⟨rfl,rfl,rfl⟩:=he;exact ⟨_,_,rfl,h2,hρ⟩
theorem Sf (hC:au E n G ρ t h a w) (hn:iX E n a o K b7) {ty e t1:TypeId} {x:Operand} {lo hi mx:Option Operand} {ox:O} {olo ohi omx:Option O} (ho:o.op = .slice ty x lo hi mx) (hu:P.underlying ty=some (.slice e))
  (hz:P.cellsOf e≠0) (hx:ck P t1 x=some ox) (hlo:(lo=none∧olo=none)∨∃y oy ty',lo=some y∧olo=some oy∧ck P ty' y=some oy) (hhi:(hi=none∧ohi=none)∨∃y oy ty',hi=some y∧ohi=some oy∧ck P ty' y=some oy)
  (hmx:(mx=none∧omx=none)∨∃y oy ty',mx=some y∧omx=some oy∧ck P ty' y=some oy) (hk:bz S ow (.s3 ox olo ohi omx (P.cellsOf e)) t h K KP):o.wp P a w b7 Q:=by
 have hvx:=DP (bJ hC hx);have hue:=MW hu;have hsz:(sizeOf (P.elem ty)).run P w = .ok (P.cellsOf e) w:=by
  have:P.elem ty=e:=by simp [Program.elem,hu]
  rw [this];unfold Program.cellsOf at hz ⊢;cases hie:P.info? e with
  |none=>rw [hie] at hz;simp at hz
  |some ie=>simp [sizeOf,typeInfo,hie]
 have src:∀(z':Nat) (r:List (List D)),(dv (gv t ox) = .d (.sl z' r)∨dv (gv t ox) = .cl z' r)→∃ad c,a.eval x = .slice ad r.length c∧r.length≤c∧bw G w (.slice ad r.length c) (.sl z' r):=by
  intro z' r hg;have hD:bw G w (a.eval x) (.sl z' r):=by
   rcases hg with hg | hg
   ·rw [hg] at hvx;exact hvx.ra
   ·rw [hg] at hvx;obtain ⟨ad,m,hv,hD⟩:=hvx.Nu;rw [hv];exact hD
  rcases hD.R9 with ⟨⟨a0,he⟩,rfl⟩ | ⟨b,o,c,U,he,g1,_⟩
  ·rw [he] at hD ⊢;exact ⟨a0,0,rfl,by simp,hD⟩
  ·rw [he] at hD ⊢;exact ⟨_,c,rfl,g1,hD⟩
 have hL:∀l:Int,(∃k,(match olo with | some lo=>gv t lo | none=>.d (.int .i64 0)) = .d (.int k l))→(lo=none∧l=0)∨∃y k,lo=some y∧a.eval y = .int k l:=by
  rintro l ⟨k,hl⟩
  rcases hlo with ⟨h1,h2⟩ | ⟨y,oy,ty',h1,h2,h3⟩
  ·subst h2;simp at hl;exact .inl ⟨h1,hl.2.symm⟩
  ·subst h2;have:=bJ hC h3;simp only at hl;rw [hl] at this;exact .inr ⟨y,k,h1,this.int⟩
 simp only [bz] at hk;split at hk
 ·skip
  rename_i kl l hl;have hL:=hL l ⟨kl,hl⟩;rcases hhi with ⟨rfl,_⟩ | ⟨_,_,_,_,h2,_⟩
  rotate_left
  ·cases h2
  rcases hmx with ⟨rfl,_⟩ | ⟨_,_,_,_,h2,_⟩
  rotate_left
  ·cases h2
  have fin:∀(z':Nat) (r:List (List D)),(dv (gv t ox) = .d (.sl z' r)∨dv (gv t ox) = .cl z' r)→((0≤l∧l≤r.length∧Nat.beq z' (P.cellsOf e)=true)∧K (.d (.sl (P.cellsOf e) (r.drop l.toNat))) t h)→o.wp P a w b7 Q:=by
   rintro z' r hg ⟨⟨g1,g2,g3⟩,hk⟩
   obtain rfl:=jf g3;obtain ⟨ad,c,hv,hrc,hD⟩:=src _ r hg;have:=hD.part (l:=l.toNat) (u:=r.length) (m:=c) (by omega) (aR _) hrc (aR _);rw [cu] at this;refine az hC hn (v':=sliced ad l.toNat r.length c (P.cellsOf e)) ?_ (.d this) hk;rcases hL with ⟨rfl,rfl⟩ | ⟨y,k,rfl,hy⟩
   ·simp [execOp,ho,hv,run_sliceAt_slice w ty _ _ _ _ hue,run_slice_all w ty _ _ _ hue,hsz]
   ·simp [execOp,ho,hv,hy,run_sliceAt_slice w ty _ _ _ _ hue,run_slice_l w ty _ _ _ hue k l g1 g2,hsz]
  split at hk
  ·rename_i z' r hg;exact fin z' r (.inl hg) hk
  ·rename_i z' r hg;exact fin z' r (.inr hg) hk
  ·rename_i id hg;rw [get?_eq] at hk;split at hk
   ·rename_i z' r hcs;obtain ⟨⟨g1,g2,g3⟩,hk⟩:=hk;obtain rfl:=jf g3;rw [hg] at hvx;obtain ⟨ad,c,hv,hrc,hρ⟩:=wy hC hvx hcs;refine az hC hn (v':=sliced ad l.toNat r.length c (P.cellsOf e)) ?_ (.k (.ov id _ _ _ ad r.length c hρ rfl)) hk;rcases hL with ⟨rfl,rfl⟩ | ⟨y,k,rfl,hy⟩
    ·simp [execOp,ho,hv,run_sliceAt_slice w ty _ _ _ _ hue,run_slice_all w ty _ _ _ hue,hsz]
    ·simp [execOp,ho,hv,hy,run_sliceAt_slice w ty _ _ _ _ hue,run_slice_l w ty _ _ _ hue k l g1 g2,hsz]
   ·exact hk.elim
  ·exact hk.elim
 ·skip
  rename_i kl l ohi hl;have hL:=hL l ⟨kl,hl⟩;rcases hhi with ⟨_,h2⟩ | ⟨yh,oyh,tyh,rfl,h2,hyh⟩
  ·cases h2
  cases h2;rcases hmx with ⟨rfl,_⟩ | ⟨_,_,_,_,h2,_⟩
  rotate_left
  ·cases h2
  split at hk
  ·rename_i ku u hgu;have hvu:=bJ hC hyh;rw [hgu] at hvu;have hvu:=hvu.int;have fin:∀(z':Nat) (r:List (List D)),(dv (gv t ox) = .d (.sl z' r)∨dv (gv t ox) = .cl z' r)→((0≤l∧l≤u∧u≤r.length∧Nat.beq z' (P.cellsOf e)=true)∧K (.d (.sl (P.cellsOf e) ((r.take u.toNat).drop l.toNat))) t h)→o.wp P a w b7 Q:=by
    rintro z' r hg ⟨⟨g1,g2,g3,g4⟩,hk⟩
    obtain rfl:=jf g4;obtain ⟨ad,c,hv,hrc,hD⟩:=src _ r hg;have:=hD.part (l:=l.toNat) (u:=u.toNat) (m:=c) (by omega) (by omega) (by omega) (aR _);refine az hC hn (v':=sliced ad l.toNat u.toNat c (P.cellsOf e)) ?_ (.d this) hk;rcases hL with ⟨rfl,rfl⟩ | ⟨y,k,rfl,hy⟩
    ·have hr:=run_slice_h w ty ad r.length c hue ku u (by omega) (by omega);simp [execOp,ho,hv,hvu,run_sliceAt_slice w ty _ _ _ _ hue,hr,hsz]
    ·have hr:=run_slice_lh w ty ad r.length c hue k ku l u g1 g2 (by omega);simp [execOp,ho,hv,hvu,hy,run_sliceAt_slice w ty _ _ _ _ hue,hr,hsz]
   split at hk
   ·rename_i z' r hg;exact fin z' r (.inl hg) hk
   ·rename_i z' r hg;exact fin z' r (.inr hg) hk
   ·rename_i id hg;rw [get?_eq] at hk;split at hk
    ·rename_i z' r hcs;simp only [j2,gE] at hk;obtain ⟨⟨g1,g2,g3,g4⟩,hk⟩:=hk;obtain rfl:=jf g4;rw [hg] at hvx;obtain ⟨ad,c,hv,hrc,hρ⟩:=wy hC hvx hcs;obtain ⟨v0,hv0,hD,hC'⟩:=hC.free hcs;rw [hρ] at hv0;cases hv0;have:=hD.part (l:=l.toNat) (u:=u.toNat) (m:=c) (by omega) (by omega) (by omega) (aR _);refine az hC' hn (v':=sliced ad l.toNat u.toNat c (P.cellsOf e)) ?_ (.d this) hk;rcases hL with ⟨rfl,rfl⟩ | ⟨y,k,rfl,hy⟩
     ·have hr:=run_slice_h w ty ad r.length c hue ku u (by omega) (by omega);simp [execOp,ho,hv,hvu,run_sliceAt_slice w ty _ _ _ _ hue,hr,hsz]
     ·have hr:=run_slice_lh w ty ad r.length c hue k ku l u g1 g2 (by omega);simp [execOp,ho,hv,hvu,hy,run_sliceAt_slice w ty _ _ _ _ hue,hr,hsz]
    ·exact hk.elim
   ·exact hk.elim
  ·exact hk.elim
 ·skip
  rename_i kl l ohi omx hl;have hL:=hL l ⟨kl,hl⟩;rcases hhi with ⟨_,h2⟩ | ⟨yh,oyh,tyh,rfl,h2,hyh⟩
  ·cases h2
  cases h2;rcases hmx with ⟨_,h2⟩ | ⟨ym,oym,tym,rfl,h2,hym⟩
  ·cases h2
  cases h2;split at hk
  ·rename_i ku u km v hgu hgm;have hvu:=bJ hC hyh;rw [hgu] at hvu;have hvu:=hvu.int;have hvm:=bJ hC hym;rw [hgm] at hvm;have hvm:=hvm.int;have fin:∀(z':Nat) (r:List (List D)),(dv (gv t ox) = .d (.sl z' r)∨dv (gv t ox) = .cl z' r)→((0≤l∧l≤u∧u=v∧u≤r.length∧Nat.beq z' (P.cellsOf e)=true)∧K (.cl (P.cellsOf e) ((r.take u.toNat).drop l.toNat)) t h)→o.wp P a w b7 Q:=by
    rintro z' r hg ⟨⟨g1,g2,huv,g3,g4⟩,hk⟩
    rw [←huv] at hvm;obtain rfl:=jf g4;obtain ⟨ad,c,hv,hrc,hD⟩:=src _ r hg;have:=hD.part (l:=l.toNat) (u:=u.toNat) (m:=u.toNat) (by omega) (by omega) (by omega) (by omega);refine az hC hn (v':=sliced ad l.toNat u.toNat u.toNat (P.cellsOf e)) ?_ (.k (.cl _ _ _ _ this)) hk;rcases hL with ⟨rfl,rfl⟩ | ⟨y,k,rfl,hy⟩
    ·have hr:=run_slice_hm w ty ad r.length c hue ku km u u (by omega) (by omega) (by omega);simp [execOp,ho,hv,hvu,hvm,run_sliceAt_slice w ty _ _ _ _ hue,hr,hsz]
    ·have hr:=run_slice_lhm w ty ad r.length c hue k ku km l u u g1 g2 (by omega) (by omega);simp [execOp,ho,hv,hvu,hvm,hy,run_sliceAt_slice w ty _ _ _ _ hue,hr,hsz]
   split at hk
   ·rename_i z' r hg;exact fin z' r (.inl hg) hk
   ·rename_i z' r hg;exact fin z' r (.inr hg) hk
   ·exact hk.elim
  ·exact hk.elim
 ·exact hk.elim
theorem C0 {v:Value} {x:V} (hr:bB G w ρ v x) (hc:uV x=true):dV G w ρ v x:=by
 cases hr with
 |o hr=>cases hr with
  |c hr=>cases hr with
   |k hr=>exact hr
   |fc=>cases hc
  |ag=>cases hc
 |tu=>cases hc
theorem N3 (hC:au E n G ρ t h a w) (hn:iX E n a o K b7) {f F:Nat} {first caps cc:Array Operand} {oc:List O} (ho:o.op = .makeFunc (.func f) first caps) (hf:f<1000000)
    (hF:(F=f∧first = #[]∧cc=caps)∨(F=f+1000000∧caps = #[]∧cc=first))
    (hcaps:oc.length=cc.size∧∀(i:Nat) (x:O),oc[i]? = some x→∃y ty,cc[i]? = some y∧ck P ty y=some x)
    (hk:((Nat.blt F 1000000 || !oc.isEmpty)&&oc.all λx=>uV (gv t x))=true∧K (.fc F (oc.map (gv t))) t h):o.wp P a w b7 Q:=by
  have hk1:=hk.1
  rw [aP] at hk1
  have hv:J2 F (.func (.func f) (first.map a.eval) (caps.map a.eval)) (cc.map a.eval):=by
    rcases hF with ⟨rfl,rfl,rfl⟩ | ⟨rfl,rfl,rfl⟩
    · exact .inl ⟨hf,by simp⟩
    · refine .inr ⟨?_,.inl ⟨f,rfl,hf,by simp⟩⟩
      have h2:¬(Nat.blt (f+1000000) 1000000=true):=by rw [dQ];omega
      have h3:=hk1.1
      rw [b_] at h3
      rcases h3 with h3 | h3
      · exact absurd h3 h2
      · have:oc≠[]:=by intro e;subst e;simp at h3
        have:=gA.2 this
        simpa [←hcaps.1] using this
  refine az hC hn (v':=.func (.func f) (first.map a.eval) (caps.map a.eval)) ?_ (.c (.fc F _ _ _ hv (by simp [hcaps.1]) (λi x hi=>?_))) hk.2
  · simp [execOp,ho,Instr.makeFunc]
  · rw [aC] at hi
    cases hc:oc[i]? with
    |none=>rw [hc] at hi;cases hi
    |some y=>
      rw [hc] at hi;cases hi
      obtain ⟨yo,ty,h1,h2⟩:=hcaps.2 i y hc
      have hr:=bJ hC h2
      have hall:=aT.1 hk1.2 y (aH hc)
      have he:(cc.map a.eval).getD i undef=a.eval yo:=by
        rw [aF,eT,h1];rfl
      rw [he]
      exact C0 hr hall
theorem xW (place:Nat→Option (Nat×Nat)):∀(ps:List (Nat×Value)) (qs:List (Nat×List V)) (cells:Array Value) (cs:List V),ps.length=qs.length →
  (∀(i:Nat) (p:Nat×Value) (q:Nat×List V),ps[i]? = some p→qs[i]? = some q→place p.1=some (q.1,q.2.length)∧q.1+q.2.length≤cells.size∧p.2.cells.size=q.2.length∧∀(j:Nat) (x:V),q.2[j]? = some x→dP G w ρ (p.2.cells.getD j undef) x) →
  cells.size=cs.length→(∀(j:Nat) (x:V),cs[j]? = some x→dP G w ρ (cells.getD j undef) x) →
  ∃out,Instr.fill place cells ps=some out∧out.size=cells.size∧∀(j:Nat) (x:V),(qs.foldl (λcs q=>lay cs q.1 q.2) cs)[j]? = some x→dP G w ρ (out.getD j undef) x:=by
 intro ps
 induction ps with
 |nil=>
  intro qs cells cs hl _ hs hr;have:qs = []:=br (by simpa using hl.symm);subst this;exact ⟨cells,rfl,rfl,hr⟩
 |cons p ps ih=>
  intro qs cells cs hl hp hs hr;cases qs with
  |nil=>simp at hl
  |cons q qs=>
   obtain ⟨i,v⟩:=p;obtain ⟨h1,h2,h3,h4⟩:=hp 0 (i,v) q rfl rfl;have hfold:∀(l:List Value) (st off:Nat) (cells:Array Value),off+st+l.length≤cells.size →
     ((l.zipIdx st).foldl (λcs (c:Value×Nat)=>cs.setIfInBounds (off+c.2) c.1) cells).size=cells.size ∧
     ∀j,((l.zipIdx st).foldl (λcs (c:Value×Nat)=>cs.setIfInBounds (off+c.2) c.1) cells)[j]? = if off+st≤j∧j<off+st+l.length then l[j - (off+st)]? else cells[j]?:=by
    intro l
    induction l with
    |nil=>intro st off cells _;refine ⟨rfl,λj=>?_⟩;simp;omega
    |cons c l ihl=>
     intro st off cells hle;simp only [aV] at hle;obtain ⟨e1,e2⟩:=ihl (st+1) off (cells.setIfInBounds (off+st) c) (by simp;omega);simp only [List.zipIdx_cons,cN];refine ⟨by rw [e1];simp,λj=>?_⟩;rw [e2 j]
     by_cases hj:j=off+st
     ·subst hj;rw [η (by omega),ζ (by simp)];simp [show off+st<cells.size by omega]
     ·by_cases hj2:off+(st+1)≤j∧j<off+(st+1)+l.length
      ·rw [ζ hj2,ζ (by simp;omega)];rw [show j - (off+st)=(j - (off+(st+1)))+1 by omega];simp
      ·rw [η hj2,η (by simp;omega)];rw [Array.getElem?_setIfInBounds_ne (by omega)]
   have hz:(Instr.fill place cells ((i,v) :: ps))=Instr.fill place (v.cells.zipIdx.foldl (λcs (c,j)=>cs.setIfInBounds (q.1+j) c) cells) ps:=by
    simp only [Instr.fill,h1];rw [η (by simp [h3];omega)]
   have hcast:v.cells.zipIdx.foldl (λcs (c,j)=>cs.setIfInBounds (q.1+j) c) cells=((v.cells.toList.zipIdx 0).foldl (λcs (c:Value×Nat)=>cs.setIfInBounds (q.1+c.2) c.1) cells):=by
    rw [←Array.foldl_toList];simp [Array.toList_zipIdx]
   obtain ⟨e1,e2⟩:=hfold v.cells.toList 0 q.1 cells (by simp [h3];omega);rw [hz,hcast];obtain ⟨out,o1,o2,o3⟩:=ih qs _ (lay cs q.1 q.2) (by simpa using hl) (λk p' q' hp' hq'=>by
    have:=hp (k+1) p' q' (by simpa using hp') (by simpa using hq');rw [e1];exact this) (by rw [e1,jh,hs]) (λj x hx=>by
    rw [aF,e2 j];rw [oB] at hx
    by_cases hj:j<q.1
    ·rw [ζ hj] at hx;rw [η (by omega),←aF];exact hr j x hx
    ·rw [η hj] at hx
     by_cases hj2:j - q.1<q.2.length∧j<cs.length
     ·rw [ζ hj2] at hx;rw [ζ (by simp [h3];omega)];have:=h4 _ x hx;rw [aF,←bQ] at this;simpa using this
     ·rw [η hj2] at hx;have hjl:j<cs.length:=(aA.1 hx).1;rw [η (by simp [h3];omega),←aF];exact hr j x hx)
   exact ⟨out,o1,by rw [o2,e1],o3⟩
end
section
variable {P:Program} {E:gR} {n:Nat} {G:Nat→Prop} {ρ:List Value} {t:T} {h:H} {a:Act} {w:World} {o:Oper} {b7:Act→World→Prop} {Q:Exit→Act→World→Prop} {K KP:V→T→H→Prop}
variable (S:Nat→List V→H→(Out→H→Prop)→Prop) (ow:Nat→Bool)
theorem foldl_map' {α β γ:Type} (f:γ→β→γ) (g:α→β) (l:List α) (c:γ):(l.map g).foldl f c=l.foldl (λc x=>f c (g x)) c:=by
 induction l generalizing c with
 |nil=>rfl
 |cons x l ih=>simp [ih]
theorem TK (hC:au E n G ρ t h a w) (hn:iX E n a o K b7) {ty:TypeId} {fs:Array Field} {ps:Array (Nat×Operand)} {pl:List (Nat×Nat)} {oq:List (Nat×Nat×O)} {zs:List V} (ho:o.op = .build ty ps) (hu:P.underlying ty=some (.struct fs))
  (hpl:fs.toList.mapM (λf=>(P.info? f.type).map λi=>(f.offset,i.size))=some pl) (hz:rZ P ty=some zs)
  (hq:oq.length=ps.size∧∀(k:Nat) (p:Nat×Operand) (q:Nat×Nat×O),ps[k]? = some p→oq[k]? = some q→pl[p.1]? = some (q.1,q.2.1)∧∃ty',ck P ty' p.2=some q.2.2)
  (hk:bz S ow (.bd zs oq) t h K KP):o.wp P a w b7 Q:=by
 simp only [bz,bo] at hk;obtain ⟨hall,hk⟩:=hk;obtain ⟨i,z,hi,hz0,hzs,_,hzr⟩:=js (G:=G) (w:=w) (ρ := ρ) hz;have hall':∀q∈oq,(gv t q.2.2).cs.length=q.2.1∧q.1+q.2.1≤zs.length∧(gv t q.2.2).cs.all ev=true:=by
  intro q hq;have:=aT.1 hall q hq;simp only [aP] at this;exact ⟨jf this.1.1,a_ this.1.2,this.2⟩
 obtain ⟨out,o1,o2,o3⟩:=xW (G:=G) (w:=w) (ρ := ρ) (pl.toArray[·]?) (ps.map λ(i,x)=>(i,a.eval x)).toList (oq.map λq=>(q.1,(gv t q.2.2).cs)) z.cells zs (by simp [hq.1])
  (λk p q hp hq'=>by
   simp only [qY,aC,aG] at hp hq';obtain ⟨p0,hp0,rfl⟩:=hp;obtain ⟨q0,hq0,rfl⟩:=hq';obtain ⟨g1,ty',g2⟩:=hq.2 k p0 q0 (by simpa using hp0) hq0;obtain ⟨e1,e2,e3⟩:=hall' q0 (aH hq0);obtain ⟨c1,c2⟩:=jR (bJ hC g2) e3;refine ⟨by simp [g1,e1],by simp only;omega,c1,c2⟩)
  hzs (λj x hx=>.k (hzr j x hx).1)
 rw [foldl_map'] at o3;have hb:P.built ty (ps.map λ(i,x)=>(i,a.eval x)).toList=some out:=by
  simp only [Program.built,hi,hu,hz0,hpl];exact o1
 refine az hC hn (v':=.agg out) ?_ (.o (.ag out _ ?_ o3)) hk
 ·simp only [execOp,ho];exact cF (run_build w ty _ out hb)
 ·have:∀(l:List (Nat×Nat×O)) (c:List V),(l.foldl (λcs p=>lay cs p.1 (gv t p.2.2).cs) c).length=c.length:=by
   intro l
   induction l with
   |nil=>intro c;rfl
   |cons q l ih=>intro c;simp only [cN];rw [ih,jh]
  rw [this,o2,hzs]
theorem jG {α:Type} (z:Nat):∀(n:Nat) (l:List α),(chunk z n l).length=n
 |0,_=>rfl
 |n+1,l=>by simp [chunk,jG z n]
theorem q_ {α:Type} (z:Nat):∀(n:Nat) (l:List α) (i:Nat),i<n→(chunk z n l)[i]? = some ((l.drop (i*z)).take z)
 |0,_,_,h=>by omega
 |n+1,l,0,_=>by simp [chunk]
 |n+1,l,i+1,h=>by
  simp only [chunk,ep];rw [q_ z n _ i (by omega),List.drop_drop,bq,Nat.one_mul,Nat.add_comm]
theorem Ga (zs:List V) (n i:Nat) (h:i<n*zs.length):(List.replicate n zs).flatten[i]? = zs[i % zs.length]?:=by
 induction n generalizing i with
 |zero=>simp at h
 |succ n ih=>
  rw [List.replicate_succ,List.flatten_cons]
  by_cases hi:i<zs.length
  ·rw [aO hi,cX hi]
  ·rw [aY (by omega),ih (i - zs.length) (by rw [bq] at h;omega)];rw [Nat.mod_eq_sub_mod (by omega:i≥zs.length)]
theorem TJ (hC:au E n G ρ t h a w) (hn:iX E n a o K b7) {ty e:TypeId} {m:Nat} {ps:Array (Nat×Operand)} {oq:List (Nat×O)} {zs:List V} (ho:o.op = .buildSlice ty m ps) (hu:P.underlying ty=some (.slice e))
    (hz:rZ P e=some zs) (hzl:zs.length=P.cellsOf e) (hz0:P.cellsOf e≠0) (hm:m*P.cellsOf e≤16777216) (hm0:m≠0)
    (hq:oq.length=ps.size∧∀(k:Nat) (p:Nat×Operand) (q:Nat×O),ps[k]? = some p→oq[k]? = some q→p.1=q.1∧∃ty',ck P ty' p.2=some q.2)
    (hk:bz S ow (.bs (P.cellsOf e) zs m oq) t h K KP):o.wp P a w b7 Q:=by
  simp only [bz,bo] at hk
  obtain ⟨hall,hk⟩:=hk
  obtain ⟨i,z,hi,hz1,hzs,_,hzr⟩:=js (G:=G) (w:=w) (ρ := ρ) hz
  have hci:P.cellsOf e=i.size:=by simp [Program.cellsOf,hi]
  have hall':∀q∈oq,(gv t q.2).cs.length=P.cellsOf e∧q.1*P.cellsOf e+P.cellsOf e≤m*P.cellsOf e∧(gv t q.2).cs.all ev=true:=by
    intro q hq
    have:=aT.1 hall q hq
    simp only [aP] at this
    exact ⟨jf this.1.1,a_ this.1.2,this.2⟩
  have hfl:(List.replicate m zs).flatten.length=m*P.cellsOf e:=by simp [hzl]
  obtain ⟨out,o1,o2,o3⟩:=xW (G:=G) (w:=w) (ρ := ρ) (λi=>some (i*P.cellsOf e,P.cellsOf e)) (ps.map λ(i,x)=>(i,a.eval x)).toList (oq.map λq=>(q.1*P.cellsOf e,(gv t q.2).cs))
    ((Array.range (m*P.cellsOf e)).map (z.cells[· % z.cells.size]!)) (List.replicate m zs).flatten (by simp [hq.1])
    (λk p q hp hq'=>by
      simp only [qY,aC,aG] at hp hq'
      obtain ⟨p0,hp0,rfl⟩:=hp
      obtain ⟨q0,hq0,rfl⟩:=hq'
      obtain ⟨g1,ty',g2⟩:=hq.2 k p0 q0 (by simpa using hp0) hq0
      obtain ⟨e1,e2,e3⟩:=hall' q0 (aH hq0)
      obtain ⟨c1,c2⟩:=jR (bJ hC g2) e3
      refine ⟨by simp [g1,e1],by simp;omega,c1,c2⟩)
    (by rw [hfl]; simp) (fun j x hx => by
      have hjl:j<m*P.cellsOf e:=by rw [←hfl];exact (aA.1 hx).1
      rw [Ga zs m j (by rw [hzl];exact hjl)] at hx
      have hr:=(hzr _ x hx).1
      have he:((Array.range (m*P.cellsOf e)).map (z.cells[· % z.cells.size]!)).getD j undef=z.cells.getD (j % zs.length) undef:=by
        have hml:j % z.cells.size<z.cells.size:=Nat.mod_lt _ (by omega)
        rw [aF,aF]
        simp only [eT,Array.getElem?_range,hjl,if_true,bA,bf]
        rw [hzs] at hml
        rw [hzs,getElem!_pos z.cells (j % zs.length) (by omega),aJ (by omega)]
        rfl
      rw [he]
      exact .k hr)
  rw [foldl_map'] at o3
  have hfll:∀(l:List (Nat×O)) (c:List V),(l.foldl (λcs p=>lay cs (p.1*P.cellsOf e) (gv t p.2).cs) c).length=c.length:=by
    intro l
    induction l with
    |nil=>intro c;rfl
    |cons q l ih=>intro c;simp only [cN];rw [ih,jh]
  obtain ⟨G',t',h',ds,hC1,hG',hdl,hds,hk⟩:=Be _ G t h (λj=>out.getD j undef) hC o3 hk
  rw [hfll,hfl] at hdl
  have hos:out.size=m*P.cellsOf e:=by rw [o2];simp
  have hg:=gY.alloc w (.cells out e)
  have hC2:=hC1.grow (G':=λb=>G' b∨b=w.heap.size) hg (λb hb=>.inl hb) (λb hb=>by
    rcases hb with hb | hb
    · exact .inl hb
    · subst hb;exact .inr ⟨aR _,by simp,_,_,_,heap_alloc_new w _⟩)
  have hrow:∀(i:Nat) (row:List D),(chunk (P.cellsOf e) m ds)[i]? = some row→i<m∧row=(ds.drop (i*P.cellsOf e)).take (P.cellsOf e):=by
    intro i row hr
    have hil:i<m:=by
      have:=(aA.1 hr).1
      rwa [jG] at this
    rw [q_ _ _ _ _ hil] at hr
    cases hr
    exact ⟨hil,rfl⟩
  have hat:∀(i:Nat) (row:List D) (j:Nat) (x:D),(chunk (P.cellsOf e) m ds)[i]? = some row→row[j]? = some x→ds[i*P.cellsOf e+j]? = some x:=by
    intro i row j x hr hx
    obtain ⟨_,rfl⟩:=hrow i row hr
    rw [ae] at hx
    split at hx
    · rwa [aw] at hx
    · cases hx
  have hm':m≤maxLen:=by
    have:m≤m*P.cellsOf e:=Nat.le_mul_of_pos_right _ (by omega)
    exact aZ (by omega:m≤16777216) (by decide)
  have hrun:(Instr.buildSlice ty m (ps.map λ(i,x)=>(i,a.eval x))).run P w = .ok (.slice (some ⟨w.heap.size,0,none⟩) m m) (w.alloc (.cells out e)):=by
    rw [hci] at o1 hm hz0
    have hne:(m*i.size=0)=False:=eq_false (λh0=>by rcases Nat.mul_eq_zero.1 h0 with h1 | h1<;>omega)
    have hne2:¬(16777216<m*i.size):=by omega
    simp only [qY] at o1
    simp [Instr.buildSlice,run_underlying hu,sizeOf,typeInfo,zeroValue,hi,hz1,hne,hne2,o1,newRow]
  have hexec:(execOp a.eval o).run P w = .ok (.value (.slice (some ⟨w.heap.size,0,none⟩) m m)) (w.alloc (.cells out e)):=by
    simp only [execOp,ho]
    exact cF hrun
  unfold K3 at hk
  rcases hk with hk | hk
  · simp only [cn] at hk
    have hC':=hC1.push hg (.slice (some ⟨w.heap.size,0,none⟩) m m) (.rows (P.cellsOf e) (chunk (P.cellsOf e) m ds)) (λb hb=>by simp only [f_,aE] at hb;omega)
      (.inr ⟨w.heap.size,m,out,e,by rw [jG],heap_alloc_new w _,by rw [jG];exact aR _,hm',hos,λi row hr=>by
        refine ⟨?_,λj x hx=>(hds _ x (hat i row j x hr hx)).mono (λb hb=>hb) (λb hb=>hg.h_ b (hC1.ok.hr.gl b hb))⟩
        obtain ⟨hil,rfl⟩:=hrow i row hr
        have:(i+1)*P.cellsOf e≤m*P.cellsOf e:=bC _ hil
        rw [bq] at this
        rw [af,cE,hdl]
        omega⟩)
    refine dh hexec (hn _ _ _ _ _ _ _ hC' (.k (.os h'.length _ _ _ ?_)) hk)
    rw [←hC1.ok.hr.len];simp
  have hD:bw (λb=>G' b∨b=w.heap.size) (w.alloc (.cells out e)) (.slice (some ⟨w.heap.size,0,none⟩) m m) (.sl (P.cellsOf e) (chunk (P.cellsOf e) m ds)):=by
    have:=bw.sl (G:=λb=>G' b∨b=w.heap.size) (w:=w.alloc (.cells out e)) w.heap.size 0 m (P.cellsOf e) (chunk (P.cellsOf e) m ds) (λi j=>out.getD (i*P.cellsOf e+j) undef)
      (by rw [jG];exact aR _) hm' (.inr rfl)
      (λi row hr=>by
        obtain ⟨hil,rfl⟩:=hrow i row hr
        have:(i+1)*P.cellsOf e≤m*P.cellsOf e:=bC _ hil
        rw [bq] at this
        simp;omega)
      (λi row j x hr hx=>by
        have hl:i*P.cellsOf e+j<out.size:=by rw [hos,←hdl];exact (aA.1 (hat i row j x hr hx)).1
        rw [dO (heap_alloc_new w _),bh,aF,aJ hl];rfl)
      (λi row j x hr hx=>(hds _ x (hat i row j x hr hx)).mono (λb hb=>.inl hb) (λb hb=>by
        rcases hb with hb
        exact hg.h_ b (hC1.ok.hr.gl b hb)))
    rwa [jG] at this
  exact dh hexec (hn _ _ _ _ _ _ _ hC2 (.d hD) hk)
end
theorem To {ks:List Nat} {x y:List V} {K:Bool→Prop} (h:Tp ks x y K):∃e,qM ks x y=some e∧K e:=by
 unfold Tp at h;split at h
 ·exact ⟨_,‹_›,h⟩
 ·exact h.elim
theorem jQ {k:Nat} {ks:List Nat} {x y:List V} {e:Bool} (h:qM (k :: ks) x y=some e):∃x0 r y0 s b e',x=x0 :: r∧y=y0 :: s∧J5 k x0 y0=some b∧qM ks r s=some e'∧e=(b&&e'):=by
 cases x with
 |nil=>simp [qM] at h
 |cons x0 r=>cases y with
  |nil=>simp [qM] at h
  |cons y0 s=>
   simp only [qM] at h;split at h
   ·split at h
    ·cases h;exact ⟨_,_,_,_,_,_,rfl,rfl,‹_›,‹_›,rfl⟩
    ·cases h
   ·cases h
theorem qL {x y:List V} {e:Bool} (h:qM [] x y=some e):x = []∧y = []∧e=true:=by
 cases x<;>cases y<;>simp [qM] at h ⊢;exact h
theorem DL:∀(ks:List Nat) (x y:List V) (e:Bool),qM ks x y=some e→x.length=ks.length∧y.length=ks.length:=by
 intro ks
 induction ks with
 |nil=>intro x y e h;obtain ⟨rfl,rfl,_⟩:=qL h;simp
 |cons k ks ih=>
  intro x y e h;obtain ⟨x0,r,y0,s,b,e',rfl,rfl,_,h2,_⟩:=jQ h;have:=ih _ _ _ h2;simp [this]
theorem Bn:∀(a b:List Nat) (x y:List V) (e:Bool),qM (a++b) x y=some e→∃e1 e2,qM a (x.take a.length) (y.take a.length)=some e1∧qM b (x.drop a.length) (y.drop a.length)=some e2∧e=(e1&&e2):=by
 intro a
 induction a with
 |nil=>intro b x y e h;exact ⟨true,e,by simp [qM],by simpa using h,by simp⟩
 |cons k a ih=>
  intro b x y e h;obtain ⟨x0,r,y0,s,b1,e',rfl,rfl,h1,h2,rfl⟩:=jQ h;obtain ⟨e1,e2,g1,g2,rfl⟩:=ih _ _ _ _ h2;exact ⟨b1&&e1,e2,by simp [qM,h1,g1],by simpa using g2,by simp [Bool.and_assoc]⟩
section
variable {P:Program} {E:gR} {n:Nat} {G:Nat→Prop} {ρ:List Value} {t:T} {h:H} {a:Act} {w:World} {o:Oper} {b7:Act→World→Prop} {Q:Exit→Act→World→Prop} {K KP:V→T→H→Prop}
def AA (P:Program) (G:Nat→Prop) (w:World) (ρ:List Value) (ty:TypeId) (v:Value) (cs:List V):Prop:=
 match P.underlying ty with
 |some (.struct _)=>∃arr:Array Value,v = .agg arr∧arr.size=cs.length∧∀(i:Nat) (x:V),cs[i]? = some x→dP G w ρ (arr.getD i undef) x
 |_=>∃x,cs = [x]∧dP G w ρ v x
theorem C5 {ty:TypeId} {arr:Array Value} {cs:List V} {off:Nat} {ks:List Nat} {m:Nat} (hs:arr.size=cs.length) (hr:∀(i:Nat) (x:V),cs[i]? = some x→dP G w ρ (arr.getD i undef) x) (hf:flat P m ty=some ks) (hle:off+ks.length≤cs.length) :
  ∃v,(part ty arr off).run P w = .ok v w∧AA P G w ρ ty v ((cs.drop off).take ks.length):=by
 cases m with
 |zero=>cases hf
 |succ m=>
  simp only [flat] at hf;have scalar:∀d,P.underlying ty=some d→(∀fs,d≠.struct fs)→(∀k e,d≠.array k e)→ks.length=1→∃v,(part ty arr off).run P w = .ok v w∧AA P G w ρ ty v ((cs.drop off).take ks.length):=by
   intro d hd h1 h2 h3;have hol:off<arr.size:=by omega
   have hag:kZ P ty=some false:=by
    cases d<;>first | exact absurd rfl (h1 _) | exact absurd rfl (h2 _ _) | simp [kZ,hd]
   refine ⟨arr[off],by simp [part,i_ hag,hol],?_⟩;have hoc:off<cs.length:=by omega
   have hx:=hr off _ (aB hoc);have hcs:(cs.drop off).take ks.length = [cs[off]]:=by
    rw [h3,bR hoc];rfl
   rw [hcs];unfold AA;rw [hd];rw [aF,aJ hol] at hx;cases d<;>first | exact ⟨_,rfl,hx⟩ | exact absurd rfl (h1 _)
  split at hf
  ·rename_i k hd;cases hf;exact scalar _ hd (by simp) (by simp) rfl
  ·rename_i hd;cases hf;exact scalar _ hd (by simp) (by simp) rfl
  ·rename_i hd;cases hf;exact scalar _ hd (by simp) (by simp) rfl
  ·rename_i fs hd;split at hf
   ·cases hf
   ·simp only [aK,aD] at hf;obtain ⟨b,hb,hif⟩:=hf;split at hif
    ·rename_i hbl;cases hif;have hag:kZ P ty=some true:=by simp [kZ,hd]
     unfold Program.cellsOf at hbl;cases hi:P.info? ty with
     |none=>exfalso;simp [Program.underlying,hi] at hd
     |some i=>
      rw [hi] at hbl;simp at hbl;refine ⟨.agg (arr.extract off (off+ks.length)),by simp [part,i_ hag,sizeOf,typeInfo,hi,hbl],?_⟩;unfold AA;rw [hd];refine ⟨_,rfl,by simp;omega,λj x hx=>?_⟩;rw [ae] at hx;split at hx
      ·rename_i hj;rw [aw] at hx;have:=hr _ x hx;have hl:off+j<arr.size:=by rw [hs];exact (aA.1 hx).1
       rw [aF,aJ hl] at this;rw [aF,Array.getElem?_extract,ζ (by omega),aJ hl];exact this
      ·cases hx
    ·cases hif
  ·cases hf
theorem uO:∀(m:Nat) (ty:TypeId) (ks:List Nat) (x y:Value) (cx cy:List V) (e:Bool) (d:Nat),flat P m ty=some ks→AA P G w ρ ty x cx→AA P G w ρ ty y cy→qM ks cx cy=some e→m≤d →
  (Op.equalIn d ty x y).run P w = .ok e w:=by
 intro m
 induction m with
 |zero=>intro ty ks x y cx cy e d hf;cases hf
 |succ m ih=>
  intro ty ks x y cx cy e d hf hx hy he hd;obtain ⟨d,rfl⟩:∃d',d=d'+1:=⟨d - 1,by omega⟩
  simp only [flat] at hf;split at hf
  ·rename_i k hu;cases hf;simp only [AA,hu] at hx hy;obtain ⟨vx,rfl,hx⟩:=hx;obtain ⟨vy,rfl,hy⟩:=hy;obtain ⟨x0,r,y0,s,b,e',h1,h2,h3,h4,rfl⟩:=jQ he;cases h1;cases h2;obtain ⟨_,_,rfl⟩:=qL h4;unfold J5 at h3;split at h3<;>first | (cases h3;done) | (rename_i hh;cases hh;done) | skip
   ·rename_i k1 a1 k2 b1 _;cases hkk:Nat.beq (kn k1) (kn k2)<;>rw [hkk] at h3
    ·cases h3
    ·cases h3;obtain rfl:k1=k2:=by revert hkk;cases k1<;>cases k2<;>simp [kn]
     have e1:=(bB.c hx).int;have e2:=(bB.c hy).int;rw [e1,e2,dy];exact run_equalIn_int w d ty _ _ _ _ hu
  ·rename_i hu;cases hf;simp only [AA,hu] at hx hy;obtain ⟨vx,rfl,hx⟩:=hx;obtain ⟨vy,rfl,hy⟩:=hy;obtain ⟨x0,r,y0,s,b,e',h1,h2,h3,h4,rfl⟩:=jQ he;cases h1;cases h2;obtain ⟨_,_,rfl⟩:=qL h4;unfold J5 at h3;split at h3<;>first | (cases h3;done) | (rename_i hh;cases hh;done) | skip
   ·cases h3;have e1:=(bB.c hx).bool;have e2:=(bB.c hy).bool;rw [e1,e2,dy];exact run_equalIn_bool' w d ty _ _ hu
  ·rename_i hu;cases hf;simp only [AA,hu] at hx hy;obtain ⟨vx,rfl,hx⟩:=hx;obtain ⟨vy,rfl,hy⟩:=hy;obtain ⟨x0,r,y0,s,b,e',h1,h2,h3,h4,rfl⟩:=jQ he;cases h1;cases h2;obtain ⟨_,_,rfl⟩:=qL h4;unfold J5 at h3;split at h3<;>first | (cases h3;done) | (rename_i hh;cases hh;done) | skip
   ·cases h3;obtain ⟨s1,e1,e2,_⟩:=(bB.c hx).str;obtain ⟨s2,e3,e4,_⟩:=(bB.c hy).str;rw [e1,e3,dy];rw [run_equalIn_string w d ty _ _ hu,ByteArray.toList_eq,ByteArray.toList_eq,e2,e4]
  ·rename_i fs hu;split at hf
   ·cases hf
   ·rename_i hst;simp only [aK,aD] at hf;obtain ⟨b,hb,hif⟩:=hf;split at hif
    ·cases hif;simp only [AA,hu] at hx hy;obtain ⟨ax,rfl,hxs,hxr⟩:=hx;obtain ⟨ay,rfl,hys,hyr⟩:=hy;have hfo:P.fieldsOf ty=fs:=by simp [Program.fieldsOf,hu]
     rw [run_equalIn_struct w d ty ax ay (by rw [hfo];exact hu) (by simpa using hst),hfo];have key:∀(fl:List Field) (off:Nat) (b:List Nat) (e:Bool),xV (flat P m) off fl=some b→qM b (cx.drop off) (cy.drop off)=some e→off+b.length=cx.length→off+b.length=cy.length →
       (Op.eqFields d ax ay fl).run P w = .ok e w:=by
      intro fl
      induction fl with
      |nil=>
       intro off b e hb he h1 h2;cases hb;have:cx.drop off = []:=fH (by simp at h1;omega);have h':cy.drop off = []:=fH (by simp at h2;omega);rw [this,h'] at he;simp [qM] at he;subst he;simp [Op.eqFields]
      |cons f fl ihf=>
       intro off b e hb he h1 h2;simp only [xV] at hb;split at hb
       ·cases hb
       ·rename_i hn;simp only [b_,χ,bne_iff_ne,ne_eq,not_or,kU] at hn;obtain ⟨hn1,hn2⟩:=hn;simp only [aK,aD] at hb;obtain ⟨b1,hb1,b2,hb2,hbb⟩:=hb;cases hbb;simp only [aL] at h1 h2;obtain ⟨e1,e2,g1,g2,rfl⟩:=Bn _ _ _ _ _ he;obtain ⟨v1,p1,s1⟩:=C5 (off:=off) hxs hxr hb1 (by omega);obtain ⟨v2,p2,s2⟩:=C5 (off:=off) hys hyr hb1 (by omega);have hr:=ih _ _ _ _ _ _ _ d hb1 s1 s2 g1 (by omega);rw [List.drop_drop,List.drop_drop] at g2;have hrest:=ihf (off+b1.length) b2 e2 hb2 g2 (by omega) (by omega);subst hn2;simp only [Op.eqFields,hn1,ne_eq,not_false_eq_true,if_true,Sem.run_bind,p1,p2,hr,Result.andThen_ok,Sem.run_ite];cases e1
        ·simp
        ·simpa using hrest
     refine key fs.toList 0 ks e hb (by simpa using he) ?_ ?_
     ·have:=(DL _ _ _ _ he).1;omega
     ·have:=(DL _ _ _ _ he).2;omega
    ·cases hif
  ·cases hf
theorem qK {m:Nat} {ty:TypeId} {ks:List Nat} {v:Value} {x:V} {b:Bool} (hf:flat P m ty=some ks) (ha:kZ P ty=some b) (hg:x.oQ=b) (hv:bB G w ρ v x) (hs:x.cs.all ev=true):AA P G w ρ ty v x.cs:=by
 obtain ⟨h1,h2⟩:=jR hv hs;simp only [kZ,aG] at ha;obtain ⟨d,hd,hb⟩:=ha;have scalar:b=false→(∀fs,d≠.struct fs)→AA P G w ρ ty v x.cs:=by
  rintro rfl hn
  have hcs:x.cs = [x]:=by cases x<;>first | rfl | cases hg
  have hc:dP G w ρ v x:=by
   cases hv with
   |o h=>cases h with
    |c h=>exact h
    |ag=>cases hg
   |tu=>rw [hcs] at hs;simp [ev] at hs
  rw [hcs];unfold AA;rw [hd];cases d<;>first | exact absurd rfl (hn _) | exact ⟨x,rfl,hc⟩
 cases m with
 |zero=>cases hf
 |succ m=>
  simp only [flat,hd] at hf;cases d<;>simp only at hf hb<;>first | (cases hf;done) | (subst hb;exact scalar rfl (by simp)) | skip
  subst hb;cases x<;>first | (cases hg;done) | skip
  obtain ⟨cs,rfl,g1,g2⟩:=hv.RS;unfold AA;rw [hd];exact ⟨cs,rfl,g1,g2⟩
theorem J4:∀(ks:List Nat) (x y:List V) (e:Bool),qM ks x y=some e→x.all ev=true∧y.all ev=true:=by
 intro ks
 induction ks with
 |nil=>intro x y e h;obtain ⟨rfl,rfl,_⟩:=qL h;simp
 |cons k ks ih=>
  intro x y e h;obtain ⟨x0,r,y0,s,b,e',rfl,rfl,h1,h2,_⟩:=jQ h;have:=ih _ _ _ h2;unfold J5 at h1;split at h1<;>first | (cases h1;done) | simp [this,ev]
variable (S:Nat→List V→H→(Out→H→Prop)→Prop) (ow:Nat→Bool)
theorem N4 (hC:au E n G ρ t h a w) (hn:iX E n a o K b7) {ne st:Bool} {ks:List Nat} {ty t1 t2 t3:TypeId} {x y:Operand} {ox oy:O} (ho:o.op = .binOp (if ne then .neq else .eql) ty x y t3) (hx:ck P t1 x=some ox) (hy:ck P t2 y=some oy)
  (hni:∀k,P.underlying ty≠some (.int k)) (hg:P.eqGuardType P.depth ty=false) (hf:flat P 100 ty=some ks) (ha:kZ P ty=some st) (hk:bz S ow (.eq ne st ks ox oy) t h K KP):o.wp P a w b7 Q:=by
 have hvx:=bJ hC hx;have hvy:=bJ hC hy;simp only [bz] at hk;obtain ⟨⟨g1,g2⟩,hk⟩:=hk;obtain ⟨e,he,hk⟩:=To hk;obtain ⟨s1,s2⟩:=J4 _ _ _ _ he;have hsx:=qK hf ha g1 hvx s1;have hsy:=qK hf ha g2 hvy s2;have hr:=uO 100 ty ks _ _ _ _ e 10000 hf hsx hsy he (by decide);refine az hC hn (v':=.bool (bif ne then !e else e)) ?_ (.d (.bool _)) hk;simp only [execOp,ho];refine cF ?_;generalize a.eval x=vx at *;generalize a.eval y=vy at *;cases hu:P.underlying ty with
 |none=>simp [kZ,hu] at ha
 |some d=>
  replace hf:flat P (99+1) ty=some ks:=hf
  rw [flat] at hf;simp only [hu] at hf;cases d<;>simp only at hf<;>first | (cases hf;done) | skip
  ·cases hf;simp only [AA,hu] at hsx hsy;obtain ⟨cx,ex,hsx⟩:=hsx;obtain ⟨cy,ey,hsy⟩:=hsy;rw [ex,ey] at he;obtain ⟨x0,r,y0,s,b,e',h1,h2,h3,h4,rfl⟩:=jQ he;cases h1;cases h2;unfold J5 at h3;split at h3<;>first | (cases h3;done) | (rename_i hh;cases hh;done) | skip
   have e1:=(bB.c hsx).bool;have e2:=(bB.c hsy).bool;subst e1 e2;cases ne<;>simp [eqGuard,binOp,Op.equal,Op.maxDepth,hr]
  ·exact absurd hu (hni _)
  ·cases hf;simp only [AA,hu] at hsx hsy;obtain ⟨cx,ex,hsx⟩:=hsx;obtain ⟨cy,ey,hsy⟩:=hsy;rw [ex,ey] at he;obtain ⟨x0,r,y0,s,b,e',h1,h2,h3,h4,rfl⟩:=jQ he;cases h1;cases h2;unfold J5 at h3;split at h3<;>first | (cases h3;done) | (rename_i hh;cases hh;done) | skip
   obtain ⟨s1,e1,_,_⟩:=(bB.c hsx).str;obtain ⟨s2,e2,_,_⟩:=(bB.c hsy).str;subst e1 e2;rw [run_equalIn_string w _ ty _ _ hu] at hr;simp only [Result.ok.injEq,ω] at hr;cases ne<;>simp [eqGuard,binOp,Op.stringOp,hr]
  ·simp only [AA,hu] at hsx hsy;obtain ⟨ax,rfl,_⟩:=hsx;obtain ⟨ay,rfl,_⟩:=hsy;cases ne
   ·simp only [cp,ψ,ε,Sem.run_bind,run_eqGuard_agg w _ ty x y ax ay hg,Result.andThen_ok,run_eql_struct,hr]
   ·simp only [if_true,δ,Sem.run_bind,run_eqGuard_agg w _ ty x y ax ay hg,Result.andThen_ok,run_neq_struct,hr]
end
end Go.Vx
