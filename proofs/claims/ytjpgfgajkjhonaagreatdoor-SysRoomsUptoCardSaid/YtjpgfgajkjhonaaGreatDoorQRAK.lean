/- Lemmas. Conditions: none. -/
import Derived.Test.YtjpgfgajkjhonaaGreatDoorQRAJ
namespace Go.Vx
section
variable {P:Program} {E:gL} {n:Nat} {G:Nat→Prop} {ρ:List Value} {t:T} {h:H} {a:Act} {w:World} {o:Oper} {bV:Act→World→Prop} {Q:Exit→Act→World→Prop} {K KP:V→T→H→Prop}
variable (ow:Nat→Bool)
theorem yR {P:Program} {lo:Option Operand} {olo:Option O} (h:(match lo with | none=>some none | some x=>(cX P 0 x).map some)=some olo):(lo=none∧olo=none)∨∃y oy ty',lo=some y∧olo=some oy∧cX P ty' y=some oy:=by
 cases lo with
 |none=>grind
 |some y=>
  simp only [aG] at h
  grind
theorem lK {α β:Type} {f:α→Option β}:∀{l:List α} {r:List β},l.mapM f=some r→r.length=l.length∧∀(k:Nat) (x:α) (y:β),l[k]? = some x→r[k]? = some y→f x=some y:=by
 intro l
 induction l with
 |nil=>grind
 |cons x l ih=>
  intro r h;simp only [iU,aI,aD,jK,aE] at h
  grind
theorem Bv (s:ByteArray) (l u:Nat):(s.extract l u).data.toList=(s.data.toList.take u).drop l:=by
 rw [ByteArray.data_extract,Array.toList_extract];rw [List.extract_eq_take_drop];rw [List.drop_take]
theorem Sw (hC:ak E n G ρ t h a w) (hn:iQ E n a o K bV) {ty t1:TypeId} {x:Operand} {lo hi:Option Operand} {ox:O} {olo ohi:Option O} (ho:o.op = .slice ty x lo hi none) (hu:P.underlying ty=some .string)
  (hx:cX P t1 x=some ox) (hlo:(lo=none∧olo=none)∨∃y oy ty',lo=some y∧olo=some oy∧cX P ty' y=some oy) (hhi:(hi=none∧ohi=none)∨∃y oy ty',hi=some y∧ohi=some oy∧cX P ty' y=some oy)
  (hk:bq (Sat P) ow (.ss ox olo ohi) t h K KP):o.wp P a w bV Q:=by
 have hvx:=bG hC hx;have hL:∀l:Int,(∃k,(match olo with | some lo=>gv t lo | none=>.d (.int .i64 0)) = .d (.int k l))→(lo=none∧l=0)∨∃y k,lo=some y∧a.eval y = .int k l:=by
  rintro l ⟨k,hl⟩
  rcases hlo with ⟨h1,h2⟩ | ⟨y,oy,ty',h1,h2,h3⟩
  grind
  ·subst h2;have:=bG hC h3;simp only at hl;rw [hl] at this;exact .inr ⟨y,k,h1,this.int⟩
 have fin:∀(r:List UInt8) (l u:Int),gv t ox = .d (.str r)→0≤l→l≤u→u≤r.length→K (.d (.str ((r.take u.toNat).drop l.toNat))) t h →
   (∀s:ByteArray,a.eval x = .string s→s.size=r.length→(execOp a.eval o).run P w = .ok (.value (.string (s.extract l.toNat u.toNat))) w)→o.wp P a w bV Q:=by
  intro r l u hg h0 h1 h2 hk hrun;rw [hg] at hvx;obtain ⟨s,hv,rfl,hm⟩:=hvx.str;refine an hC hn (hrun s hv (lF s)) (.d ?_) hk;rw [←Bv];refine .str _ (aV ?_ hm);rw [lF,Bv,lF]
  grind
 simp only [bq] at hk;split at hk
 ·rename_i kl l hl;have hL:=hL l ⟨kl,hl⟩;rcases hhi with ⟨rfl,_⟩ | ⟨_,_,_,_,h2,_⟩
  rotate_left
  grind
  split at hk
  ·rename_i r hg;obtain ⟨⟨g1,g2⟩,hk⟩:=hk;refine fin r l r.length hg g1 g2 (eV _) (by simp_all) (λs hv hs=>?_);rw [Int.toNat_natCast,←hs];rcases hL with ⟨rfl,rfl⟩ | ⟨y,k,rfl,hy⟩
   ·simp [execOp,ho,hv,run_sliceAt_string w ty _ _ _ _ hu,Instr.slice,run_underlying hu,Instr.sliceBounds]
   ·have hl1:=run_sliceBound (P:=P) w k l s.size .sliceB g1 (by grind);simp [execOp,ho,hv,hy,run_sliceAt_string w ty _ _ _ _ hu,Instr.slice,run_underlying hu,Instr.sliceBounds,hl1]
  grind
 ·rename_i kl l ohi hl;have hL:=hL l ⟨kl,hl⟩;rcases hhi with ⟨_,h2⟩ | ⟨yh,oyh,tyh,rfl,h2,hyh⟩
  grind
  cases h2;split at hk
  ·rename_i ku u hgu;have hvu:=bG hC hyh;rw [hgu] at hvu;have hvu:=hvu.int;split at hk
   ·rename_i r hg;obtain ⟨⟨g1,g2,g3⟩,hk⟩:=hk;refine fin r l u hg g1 g2 g3 hk (λs hv hs=>?_);have hu1:=run_sliceBound (P:=P) w ku u s.size .sliceAlen (by omega) (by grind);have hun:(u.toNat:Int)=u:=Int.toNat_of_nonneg (by omega);rcases hL with ⟨rfl,rfl⟩ | ⟨y,k,rfl,hy⟩
    ·simp [execOp,ho,hv,hvu,run_sliceAt_string w ty _ _ _ _ hu,Instr.slice,run_underlying hu,Instr.sliceBounds,hu1]
    ·have hl1:=run_sliceBound (P:=P) w k l u.toNat .sliceB g1 (by omega);simp [execOp,ho,hv,hvu,hy,run_sliceAt_string w ty _ _ _ _ hu,Instr.slice,run_underlying hu,Instr.sliceBounds,hu1,hl1]
   grind
  grind
 grind
theorem kj {α:Type} {a:Array α} {l:List α} (h:a.toList=l):a=l.toArray:=by grind
theorem ou (hC:ak E n G ρ t h a w) (hn:iQ E n a o K bV) (hp:SE E n a KP Q) {x:X} (hx:fj P o.type o.op=some x∨x = .bad) (hk:bq (Sat P) ow x t h K KP):o.wp P a w bV Q:=by
 rcases hx with hx | rfl
 case inr=>exact hk.elim
 cases ho:o.op<;>rw [ho] at hx<;>simp only [fj] at hx<;>try (cases hx;done)
 case move y=>
  split at hx
  ·cases hx;simp only [bq,bf,cZ] at hk;exact Gf hC hn (.inl ho) hk
  ·simp only [aG] at hx;obtain ⟨oy,hy,rfl⟩:=hx;exact N7 hC hn (.inl ho) hy hk
 case assign y=>
  split at hx
  ·cases hx;simp only [bq,bf,cZ] at hk;exact Gf hC hn (.inr ho) hk
  ·simp only [aG] at hx;obtain ⟨oy,hy,rfl⟩:=hx;exact N7 hC hn (.inr ho) hy hk
 case pick c y z=>
  simp only [aI,aD,aE] at hx;obtain ⟨oc,hc,oy,hy,oz,hz,rfl⟩:=hx;simp only [bq] at hk;split at hk
  ·exact TA hC hn ho hc hy hz ‹_› hk
  grind
 case alloc ty=>
  have al:(rM P ty).map X.al=some x→o.wp P a w bV Q:=λhx=>by
   simp only [aG] at hx;obtain ⟨zs,hz,rfl⟩:=hx;simp only [bq,bf,cZ] at hk;exact T5 hC hn ho hz hk
  split at hx
  ·split at hx
   ·rename_i m e hu hm;simp only [aI,aD] at hx;obtain ⟨zs,hz,hx⟩:=hx;split at hx
    ·split at hx
     ·rename_i d r hc;simp only [aP,χ] at hc hm;cases hx;simp only [bq,bf,cZ] at hk;exact T7 hC hn ho hz hc.1 hm.2 hc.2 hk
     grind
    grind
   grind
  grind
 case box ty y=>
  simp only [aG] at hx;obtain ⟨oy,hy,rfl⟩:=hx;simp only [bq,bf,cZ] at hk;exact T1 hC hn ho hy hk
 case build ty ps=>
  split at hx
  ·rename_i fs hu;simp only [aI,aD,aE] at hx;obtain ⟨pl,hpl,qs,hqs,zs,hz,rfl⟩:=hx;obtain ⟨g1,g2⟩:=lK hqs;refine T3 (Sat P) ow hC hn ho hu hpl hz ⟨by grind,λk p q hp hq=>?_⟩ hk;have:=g2 k p q (by grind) hq;simp only [aD,aE] at this
   grind
  grind
 case buildSlice ty m ps=>
  split at hx
  ·rename_i e hu;simp only [aI,aD] at hx;obtain ⟨qs,hqs,zs,hz,hx⟩:=hx;split at hx
   ·rename_i hc;cases hx;simp only [aP,χ,gD] at hc;obtain ⟨⟨⟨rfl,hq0⟩,_⟩,_⟩:=hc;subst hq0;obtain ⟨g1,_⟩:=lK hqs;have hps:ps = #[]:=kv (by grind);subst hps;exact TC (Sat P) ow hC hn ho hu hz hk
   ·split at hx
    grind
    ·rename_i hc;cases hx;simp only [cI,χ,bne_iff_ne,ne_eq,not_or,kF] at hc;obtain ⟨⟨⟨c1,c2⟩,c3⟩,c4⟩:=hc;obtain ⟨g1,g2⟩:=lK hqs;refine T2 (Sat P) ow hC hn ho hu hz c4 c1 (by omega) c3 ⟨by grind,λk p q hp hq=>?_⟩ hk;have:=g2 k p q (by grind) hq;simp only [aD,aE] at this
     grind
  grind
 case load ty y=>
  have ld:(do some (X.ld (←cX P ty y) (←uj P ty)))=some x→o.wp P a w bV Q:=λhx=>by
   simp only [aI,aD,aE] at hx;obtain ⟨oy,hy,m,hm,rfl⟩:=hx;exact TN (Sat P) ow hC hn ho hy hm hk
  split at hx
  ·split at hx
   ·split at hx
    ·simp only [aI,aD] at hx;obtain ⟨k,hl,oy,hy,hx⟩:=hx;split at hx
     ·rename_i hkm;subst hkm;cases hx;exact TO (Sat P) ow hC hn ho hy hl hk
     grind
    grind
   grind
  grind
 case store ty y z=>
  simp only [aI,aD,aE] at hx;obtain ⟨oy,hy,oz,hz,m,hm,rfl⟩:=hx;exact Sv (Sat P) ow hC hn ho hy hz hm hk
 case fieldAddr ty y f=>
  split at hx
  ·rename_i fs hu;simp only [aI,aD] at hx;obtain ⟨fd,hf,hx⟩:=hx;split at hx
   grind
   ·rename_i hz;simp only [aD,aE] at hx;obtain ⟨oy,hy,rfl⟩:=hx;exact TU (Sat P) ow hC hn ho hu hf hz hy hk
  grind
 case indexAddr ty y z=>
  split at hx
  ·rename_i e hu;split at hx
   grind
   ·rename_i hc;simp only [aI,aD,aE] at hx;obtain ⟨oy,hy,oz,hz,rfl⟩:=hx;exact TT (Sat P) ow hC hn ho hu hc hy hz hk
  ·rename_i m e hu;split at hx
   grind
   ·rename_i hc;split at hx
    ·split at hx
     ·rename_i hc1;simp only [aI,aD,aE] at hx;obtain ⟨oy,hy,oz,hz,rfl⟩:=hx;exact TP (Sat P) ow hC hn ho hu hc1 hy hz hk
     grind
    ·simp only [aI,aD,aE] at hx;obtain ⟨oy,hy,oz,hz,rfl⟩:=hx;exact TQ (Sat P) ow hC hn ho hu hc hy hz hk
  grind
 case makeMap ty r=>
  cases r with
  |some r=>grind
  |none=>
   simp only at hx
   repeat' split at hx
   all_goals first
    |(cases hx;done)
    |(cases hx;exact TG (Sat P) ow hC hn ho hk)
 case range ty y=>
  split at hx
  ·rename_i kt e hu;simp only [aG] at hx;obtain ⟨oy,hy,rfl⟩:=hx;exact Sz (Sat P) ow hC hn ho hu hy hk
  grind
 case next y b=>
  cases b with
  |true=>grind
  |false=>
   simp only [aG] at hx;obtain ⟨oy,hy,rfl⟩:=hx;exact TB (Sat P) ow hC hn ho hy hk
 case entry y=>
  simp only [aG] at hx;obtain ⟨oy,hy,rfl⟩:=hx;exact TW (Sat P) ow hC hn ho hy hk
 case lookup ty y k ok=>
  split at hx
  ·rename_i kt e hu;simp only [aI,aD,aE] at hx;obtain ⟨oy,hy,oz,hz,ks,hks,zv,hzv,rfl⟩:=hx;exact TH (Sat P) ow hC hn ho hu hy hz hks hzv hk
  grind
 case mapUpdate ty y k v=>
  split at hx
  ·rename_i kt e hu;simp only [aI,aD,aE] at hx;obtain ⟨oy,hy,oz,hz,ov,hv,ks,hks,rfl⟩:=hx;exact N8 (Sat P) ow hC hn (.inl ho) hu hy hz hv hks hk
  grind
 case insert ty y k v=>
  split at hx
  ·rename_i kt e hu;simp only [aI,aD,aE] at hx;obtain ⟨oy,hy,oz,hz,ov,hv,ks,hks,rfl⟩:=hx;exact N8 (Sat P) ow hC hn (.inr ho) hu hy hz hv hks hk
  grind
 case binOp b ty y z u=>
  split at hx
  ·simp only [aI,aD,aE] at hx;obtain ⟨oy,hy,oz,hz,rfl⟩:=hx;exact Gk (Sat P) ow hC hn ho hy hz hk
  ·rename_i e hu;split at hx
   ·rename_i y;simp only [aG] at hx;obtain ⟨oy,hy,rfl⟩:=hx;exact N6 (Sat P) ow hC hn (ne:=false) ho hu hy hk
   ·rename_i y;simp only [aG] at hx;obtain ⟨oy,hy,rfl⟩:=hx;exact N6 (Sat P) ow hC hn (ne:=true) ho hu hy hk
   grind
  ·rename_i ms hu;split at hx
   ·simp only [aG] at hx;obtain ⟨oy,hy,rfl⟩:=hx;exact tB (Sat P) ow hC hn hy (N2 hC (ne:=false) ho hu hy) hk
   ·simp only [aG] at hx;obtain ⟨oy,hy,rfl⟩:=hx;exact tB (Sat P) ow hC hn hy (N2 hC (ne:=true) ho hu hy) hk
   grind
  ·rename_i e hu;split at hx
   ·simp only [aG] at hx;obtain ⟨oy,hy,rfl⟩:=hx;exact tB (Sat P) ow hC hn hy (N1 hC (ne:=false) ho hu hy) hk
   ·simp only [aG] at hx;obtain ⟨oy,hy,rfl⟩:=hx;exact tB (Sat P) ow hC hn hy (N1 hC (ne:=true) ho hu hy) hk
   grind
  ·rename_i hni _ _ _;split at hx
   ·split at hx
    ·simp only [aI,aD,aE] at hx;obtain ⟨oy,hy,oz,hz,rfl⟩:=hx;exact Gk (Sat P) ow hC hn ho hy hz hk
    grind
   ·split at hx
    grind
    ·rename_i hg;simp only [aI,aD,aE] at hx;obtain ⟨ks,hf,st,ha,oy,hy,oz,hz,rfl⟩:=hx;exact Na (Sat P) ow hC hn (ne:=false) ho hy hz (λk e=>hni k e) (by grind) hf ha hk
   ·split at hx
    grind
    ·rename_i hg;simp only [aI,aD,aE] at hx;obtain ⟨ks,hf,st,ha,oy,hy,oz,hz,rfl⟩:=hx;exact Na (Sat P) ow hC hn (ne:=true) ho hy hz (λk e=>hni k e) (by grind) hf ha hk
   grind
 case unOp u ty y=>
  simp only [aI,aD,aE] at hx;obtain ⟨oy,hy,rfl⟩:=hx;exact Su (Sat P) ow hC hn ho hy hk
 case convert s d y=>
  split at hx
  ·rename_i hs hd;simp only [aG] at hx;obtain ⟨oy,hy,rfl⟩:=hx;exact TX (Sat P) ow hC hn ho hs hd hy hk
  ·rename_i e hs hd;split at hx
   ·rename_i he;simp only [aG] at hx;obtain ⟨oy,hy,rfl⟩:=hx;exact Sx (Sat P) ow hC hn ho hs he hd hy hk
   grind
  grind
 case slice ty y lo hi m=>
  simp only [aI] at hx;split at hx
  ·rename_i e hu;split at hx
   grind
   ·rename_i hc;simp only [aD,aE] at hx;obtain ⟨oy,hy,olo,hlo,ohi,hhi,om,hm,rfl⟩:=hx;exact Sy (Sat P) ow hC hn ho hu hc hy (yR hlo) (yR hhi) (yR hm) hk
  ·rename_i hu;split at hx
   ·simp only [aD,aE] at hx;obtain ⟨oy,hy,olo,hlo,ohi,hhi,rfl⟩:=hx;exact Sw ow hC hn ho hu hy (yR hlo) (yR hhi) hk
   grind
  grind
 case nilCheck y=>
  simp only [aG] at hx;obtain ⟨oy,hy,rfl⟩:=hx;exact TD (Sat P) ow hC hn ho hy hk
 case index ty y i=>
  split at hx
  ·rename_i hu;simp only [aI,aD,aE] at hx;obtain ⟨oy,hy,oz,hz,rfl⟩:=hx;exact TR (Sat P) ow hC hn ho hu hy hz hk
  ·rename_i m e hu;split at hx
   ·rename_i hc;simp only [aP,χ] at hc;simp only [aI,aD,aE] at hx;obtain ⟨oy,hy,oz,hz,rfl⟩:=hx;exact T6 (Sat P) ow hC hn ho hu hc.1 hc.2 hy hz hk
   grind
  grind
 case extract y i=>
  simp only [aI,aD,aE] at hx;obtain ⟨oy,hy,rfl⟩:=hx;exact TV (Sat P) ow hC hn ho hy hk
 case makeInterface ty y=>
  split at hx
  grind
  ·rename_i u hni hu;simp only [aI,aD] at hx;obtain ⟨ag,_,hx⟩:=hx;split at hx
   ·rename_i hty;simp only [aD,aE] at hx;obtain ⟨oy,hy,rfl⟩:=hx;exact tB (Sat P) ow hC hn hy (Sj hC ho (λms h=>by grind) hu hty hy) hk
   grind
  grind
 case typeAssert y xt ty ok=>
  split at hx
  grind
  ·rename_i u hni hu;simp only [aI,aD] at hx;obtain ⟨ag,_,hx⟩:=hx;split at hx
   ·rename_i hty;simp only [aD,aE] at hx;obtain ⟨zv,hz,oy,hy,rfl⟩:=hx;exact tB (Sat P) ow hC hn hy (Si hC ho (λms h=>by grind) hu hty hz hy) hk
   grind
  grind
 case field ty y f=>
  split at hx
  ·rename_i fs hu;simp only [aI,aD,aE] at hx;obtain ⟨fd,hf,m,hl,oy,hy,rfl⟩:=hx;exact tB (Sat P) ow hC hn hy (Sk hC ho hu hf hl hy) hk
  grind
 case panic y=>
  simp only [aG] at hx;obtain ⟨oy,hy,rfl⟩:=hx;exact S_ (Sat P) ow hC hp ho hy hk
 case makeSlice ty l c=>
  split at hx
  ·rename_i e hu;simp only [aI,aD] at hx;obtain ⟨zs,hz,ds,hd,i,hi,hx⟩:=hx;split at hx
   grind
   ·rename_i hc;simp only [aD,aE] at hx;obtain ⟨ol,hl,oc,hoc,rfl⟩:=hx;simp only [ne_eq,cI,χ,not_or,kF] at hc;exact TI (Sat P) ow hC hn ho hu hz hd hi hc.1 hl hoc hk
  grind
 case makeFunc fn first caps=>
  cases fn<;>simp only at hx<;>try (cases hx;done)
  rename_i f;have key:∀(xs:List Operand) (oc:List O),args P xs []=some oc→oc.length=xs.length∧∀(i:Nat) (x:O),oc[i]? = some x→∃y ty,xs[i]? = some y∧cX P ty y=some x:=by
   intro xs
   induction xs with
   |nil=>intro oc h;simp only [args] at h;grind
   |cons x xs ih=>
    intro oc h;simp only [args,aI,aD] at h
    grind
  split at hx
  ·rename_i hf;split at hx
   ·rename_i hfirst;rw [aG] at hx;obtain ⟨oc,hoc,rfl⟩:=hx;simp only [bq,bf] at hk;obtain ⟨g1,g2⟩:=key _ _ hoc;exact N9 hC hn ho hf (.inl ⟨rfl,kv hfirst,rfl⟩) ⟨by grind,λi x hi=>by grind⟩ hk
   ·split at hx
    ·rename_i hcap;rw [aG] at hx;obtain ⟨oc,hoc,rfl⟩:=hx;simp only [bq,bf] at hk;obtain ⟨g1,g2⟩:=key _ _ hoc;exact N9 hC hn ho hf (.inr ⟨rfl,kv hcap,rfl⟩) ⟨by grind,λi x hi=>by grind⟩ hk
    grind
  grind
 case call c=>
  obtain ⟨callee,as,ts⟩:=c;cases callee with
  |value f=>
   cases f<;>simp only at hx
   case func f=>
    split at hx
    ·rename_i hlt;simp only [aG] at hx;obtain ⟨oa,ha,rfl⟩:=hx;exact TY ow hC hn hp hlt ho rfl ha hk
    grind
   all_goals
    simp only [aI,aD,aE] at hx;obtain ⟨oy,hy,oa,ha,rfl⟩:=hx;exact TZ ow hC hn hp ho rfl hy ha hk
  |invoke r m=>grind
  |builtin b=>
   cases b<;>simp only at hx<;>try (cases hx;done)
   case len=>
    split at hx
    ·rename_i y u h1 h2;have e1:=kj h1;have e2:=kj h2;subst e1 e2;split at hx
     ·simp only [aG] at hx;obtain ⟨oy,hy,rfl⟩:=hx;exact TL (Sat P) ow hC hn ho ‹_› hy hk
     ·simp only [aG] at hx;obtain ⟨oy,hy,rfl⟩:=hx;exact TM (Sat P) ow hC hn ho ‹_› hy hk
     ·simp only [aG] at hx;obtain ⟨oy,hy,rfl⟩:=hx;exact TK (Sat P) ow hC hn ho ‹_› hy hk
     grind
    grind
   case delete=>
    split at hx
    ·rename_i y z u v h1 h2;have e1:=kj h1;have e2:=kj h2;subst e1 e2;split at hx
     ·rename_i kt e hu;simp only [aI,aD,aE] at hx;obtain ⟨oy,hy,oz,hz,ks,hks,rfl⟩:=hx;exact TJ (Sat P) ow hC hn ho hu hy hz hks hk
     grind
    grind
   case clear=>
    split at hx
    ·rename_i y u h1 h2;have e1:=kj h1;have e2:=kj h2;subst e1 e2;split at hx
     ·rename_i e hu;simp only [aI,aD] at hx;obtain ⟨zs,hz,ds,hd,hx⟩:=hx;split at hx
      grind
      ·rename_i hc;simp only [aD,aE] at hx;obtain ⟨oy,hy,rfl⟩:=hx;simp only [ne_eq,cI,χ,not_or,kF] at hc;exact QN (Sat P) ow hC hn ho hu hz hd hc.1 hc.2 hy hk
     grind
    grind
   case min=>
    split at hx
    ·rename_i y z h1;have e1:=kj h1;subst e1;simp only [aI,aD,aE] at hx;obtain ⟨oy,hy,oz,hz,rfl⟩:=hx;exact TF (Sat P) ow hC hn ho hy hz hk
    grind
   case max=>
    split at hx
    ·rename_i y z h1;have e1:=kj h1;subst e1;simp only [aI,aD,aE] at hx;obtain ⟨oy,hy,oz,hz,rfl⟩:=hx;exact TE (Sat P) ow hC hn ho hy hz hk
    grind
   case append=>
    split at hx
    ·rename_i y z u v h1 h2;have e1:=kj h1;have e2:=kj h2;subst e1 e2;split at hx
     ·rename_i e _ hu hv;simp only [aI,aD] at hx;obtain ⟨zs,hz,hx⟩:=hx;split at hx
      grind
      ·rename_i hc;simp only [aD,aE,aG] at hx;obtain ⟨oy,hy,oz,hoz,by_,⟨i,hi,rfl⟩,rfl⟩:=hx;have hci:P.cellsOf e=i.size:=by simp [Program.cellsOf,hi]
       simp only [ne_eq,cI,χ,not_or,kF] at hc;rw [hci] at hk;exact T4 (Sat P) ow hC hn ho hu hv hi hz (by grind) hy hoz hk
     grind
    grind
end
section
variable {P:Program} {E:gL} {n:Nat} {G:Nat→Prop} {ρ:List Value} {t t':T} {h:H} {a:Act} {w:World} {o:Oper} {bV:Act→World→Prop} {Q:Exit→Act→World→Prop} {K:Ex→T→H→Prop}
variable (ow:Nat→Bool)
theorem ak.congr (hC:ak E n G ρ t h a w) (ht:∀i,gs t' i=gs t i):ak E n G ρ t' h a w:=
 ⟨hC.ok,hC.df,hC.sz,λi=>by rw [ht i];exact hC.tm i⟩
def fk (d:Option Nat) (v:V) (t:T):T:=
 match d with
 |some i=>(i,v) :: t
 |none=>t
theorem fU (d:Option Nat) (v:V) (t:T) (K:T→Prop):ub d v t K=K (fk d v t):=by
 rw [Rg];cases d<;>rfl
theorem ak.fk (hC:ak E n G ρ t h a w) (d:Option Nat) {v:Value} {x:V} (hd:∀i,d=some i→i<n) (hr:au G w ρ v x):ak E n G ρ (Vx.fk d x t) h (a.put d v) w:=by
 have:=hC.put d hd hr;cases d<;>exact this
theorem xF {j:Nat} {v:V} (hj:gs t j=v) (i:Nat):gs ((j,v) :: t) i=gs t i:=by
 simp only [gI]
 by_cases e:j=i
 ·subst e;simp [hj]
 ·rw [fm e];rfl
theorem nO {ops:Array Oper} {i:I} (hi:oY P n ops o=some i):(fj P o.type o.op=some i.o∨i.o = .bad)∧i.d=o.dst∧(∀k,o.dst=some k→k<n) ∧
  (match o.guard with | none=>i.g=none | some (j,x)=>∃d,(ops[j]?).bind (·.dst)=some d∧i.g=some (d,x)):=by
 simp only [oY,aI] at hi;have hx:∀y,(fj P o.type o.op).getD .bad=y→fj P o.type o.op=some y∨y = .bad:=λy hy=>by
  cases hc:fj P o.type o.op with
  |none=>rw [hc] at hy;exact .inr hy.symm
  |some z=>rw [hc] at hy;exact .inl (κ some hy)
 split at hi
 ·cases hi
 ·rename_i hd;have hd':∀k,o.dst=some k→k<n:=λk hk=>by
   simp only [hk,bo,dF,Bool.not_eq_false] at hd;exact (fH ..).mp hd
  split at hi
  ·cases hi;rename_i hg;exact ⟨hx _ rfl,rfl,hd',by rw [hg]⟩
  ·rename_i hg;simp only [aD] at hi;obtain ⟨d,hd2,hi⟩:=hi;cases hi;refine ⟨hx _ rfl,rfl,hd',?_⟩;rw [hg];exact ⟨d,aD.2 hd2,rfl⟩
theorem mT (hC:ak E n G ρ t h a w) {ops:Array Oper} {j d:Nat} {x b:Bool} (hg:o.guard=some (j,x)) (hd:(ops[j]?).bind (·.dst)=some d) (ht:gs t d = .d (.bool b)) :
  Region.wanted o (yielded ops a.tmps)=(b==x):=by
 have h1:=(ht ▸ hC.tm d).bool;have h2:a.tmps[d]? = some (.bool b):=by
  rw [aF] at h1;cases hx:a.tmps[d]? with
  |none=>rw [hx] at h1;cases h1
  |some v=>rw [hx] at h1;exact κ some h1
 simp only [Region.wanted,hg,yielded,hd,Option.bind_some,h2];cases b<;>cases x<;>rfl
theorem qL (hC:ak E n G ρ t h a w) {ops:Array Oper} {j d:Nat} {x:Bool} (hg:o.guard=some (j,x)) (hd:(ops[j]?).bind (·.dst)=some d) (ht:gs t d = .ud) :
  Region.wanted o (yielded ops a.tmps)=false:=by
 have h1:a.tmps.getD d undef=undef:=by
  have:=ht ▸ hC.tm d;generalize a.tmps.getD d undef=u at this;cases this with | o k=>cases k with | c k=>cases k with | k k=>cases k with
   |ud=>rfl
 simp only [Region.wanted,hg,yielded,hd,Option.bind_some];rw [aF] at h1;cases hx:a.tmps[d]? with
 |none=>rfl
 |some v=>rw [hx] at h1;simp only [bo] at h1;subst h1;rfl
def PQ (E:gL) (n:Nat) (K:Ex→T→H→Prop) (Q:Exit→Act→World→Prop):Prop:=
 ∀(a:Act) (w:World) (G:Nat→Prop) (ρ:List Value) (t:T) (h:H) (v:V) (v':Value),ak E n G ρ t h a w→au G w ρ v' v→K (.fg v) t h→Q (.panic [{ v:=v',recovered:=false }]) a w
theorem A0:au G w ρ undef .ud:=.k .ud
theorem rp (hC:ak E n G ρ t h a w) {ops:Array Oper} {i:I} (hi:oY P n ops o=some i) {r:List I} (hk:rx (Sat P) ow (i :: r) t h K)
  (hnx:∀(a':Act) (w':World) (G':Nat→Prop) (ρ':List Value) (t':T) (h':H),ak E n G' ρ' t' h' a' w'→rx (Sat P) ow r t' h' K→bV a' w') (hp:PQ E n K Q) :
  if Region.wanted o (yielded ops a.tmps) then o.wp P a w bV Q else bV (a.put o.dst undef) w:=by
 obtain ⟨hx,hd,hlt,hg⟩:=nO hi;have run:∀{t:T},ak E n G ρ t h a w→bq (Sat P) ow i.o t h (λv t h=>ub i.d v t λt=>rx (Sat P) ow r t h K) (λv t h=>K (.fg v) t h)→o.wp P a w bV Q:=by
  intro t hC hk;refine ou ow hC (λv' w' G' ρ' t' h' v hC' hv hk'=>?_) (λv' w' G' ρ' t' h' v hC' hv hk'=>hp a w' G' ρ' t' h' v v' hC' hv hk') hx hk;rw [fU,hd] at hk';exact hnx _ _ _ _ _ _ (hC'.fk o.dst hlt hv) hk'
 have pass:∀{t:T},ak E n G ρ t h a w→(ub i.d .ud t λt=>rx (Sat P) ow r t h K)→bV (a.put o.dst undef) w:=by
  intro t hC hk;rw [fU,hd] at hk;exact hnx _ _ _ _ _ _ (hC.fk o.dst hlt A0) hk
 cases hgo:o.guard with
 |none=>
  rw [hgo] at hg;simp only at hg;simp only [By,Bz,hg] at hk;rw [ζ (by simp [Region.wanted,hgo])];exact run hC hk
 |some p=>
  obtain ⟨j,x⟩:=p;rw [hgo] at hg;obtain ⟨d,hd1,hg⟩:=hg;simp only [By,Bz,hg] at hk;split at hk
  ·rename_i b hb;rw [mT hC hgo hd1 hb];have hC1:=hC.congr (xF hb);cases b<;>cases x<;>simp only [sp,δ,ε] at hk<;>simp only [BEq.rfl,if_true,cj,ψ,ξ,reduceCtorEq]
   ·exact run hC1 hk
   ·exact pass hC1 hk
   ·exact pass hC1 hk
   ·exact run hC1 hk
  ·rename_i hb;rw [qL hC hgo hd1 hb];exact pass hC hk
  ·exact hk.elim
def QK (E:gL) (n:Nat) (K:Ex→T→H→Prop) (e:Exit) (a:Act) (w:World):Prop:=
  ∃(G:Nat→Prop) (ρ:List Value) (t:T) (h:H),ak E n G ρ t h a w∧match e with
    |.normal=>K .p7 t h
    |.exit id=>K (.ext id) t h
    |.ret=>K .ret t h
    |.panic ch=>∃v v',ch = [{ v:=v',recovered:=false }]∧au G w ρ v' v∧K (.fg v) t h
    |_=>False
theorem PQ.qk:PQ E n K (QK E n K):=λ_ _ G ρ t h v v' hC hv hk=>⟨G,ρ,t,h,hC,v,v',rfl,hv,hk⟩
theorem Pv {ops:Array Oper}:∀(os:List Oper) (is:List I),os.mapM (oY P n ops)=some is→∀(G:Nat→Prop) (ρ:List Value) (t:T) (h:H) (a:Act) (w:World),ak E n G ρ t h a w →
  rx (Sat P) ow is t h K→wpList P ops (QK E n K) os a w:=by
 intro os
 induction os with
 |nil=>
  intro is hm G ρ t h a w hC hk;simp at hm;subst hm;exact wpList_nil ⟨G,ρ,t,h,hC,hk⟩
 |cons o os ih=>
  intro is hm G ρ t h a w hC hk;simp only [iU,aI,aD,jK,aE] at hm;obtain ⟨i,hi,r,hr,rfl⟩:=hm;exact wpList_step λK' hK'=>rp ow hC hi hk (λa' w' G' ρ' t' h' hC' hk'=>hK' _ _ (ih r hr G' ρ' t' h' a' w' hC' hk')) PQ.qk
end
section
variable {P:Program} {t t':T} {h:H} {K:V→Prop} (ow:Nat→Bool)
theorem eE {x:O} (ht:∀s∈qw x,gs t' s=gs t s):gv t' x=gv t x:=by
 cases x with
 |s i=>exact ht i (by simp [qw])
 |g i=>rfl
 |k v=>cases v<;>rfl
theorem Nr:∀(cs:List V) (K:List D→T→H→Prop),BP cs [] [] K→∃ds,K ds [] []∧∀(t:T) (h:H) (K':List D→T→H→Prop),K' ds t h→BP cs t h K':=by
 intro cs
 induction cs with
 |nil=>intro K hk;exact ⟨[],hk,λt h K' hk=>hk⟩
 |cons x r ih=>
  intro K hk;cases x<;>(try simp only [iP,tv] at hk)<;>try (exact hk.elim)
  case d x=>
   obtain ⟨ds,h1,h2⟩:=ih _ hk;exact ⟨x :: ds,h1,λt h K' hk'=>by simp only [iP,tv];exact h2 t h _ hk'⟩
  case cl z rs=>
   obtain ⟨ds,h1,h2⟩:=ih _ hk;exact ⟨.sl z rs :: ds,h1,λt h K' hk'=>by simp only [iP,tv];exact h2 t h _ hk'⟩
  case fc f c=>
   cases c with
   |cons c0 c=>
    replace hk:(match vp (c0 :: c) with
     |some ds=>BP r [] [] λxs t h=>K (.fc f ds :: xs) t h
     |none=>False):=hk
    cases hD:vp (c0 :: c) with
    |none=>rw [hD] at hk;exact hk.elim
    |some cd=>
     rw [hD] at hk;obtain ⟨ds,h1,h2⟩:=ih _ hk;exact ⟨.fc f cd :: ds,h1,λt h K' hk'=>by simp only [iP,tv,hD];exact h2 t h _ hk'⟩
   |nil=>
   replace hk:BP r [] [] (λxs t h=>K (.fn f :: xs) t h):=hk
   obtain ⟨ds,h1,h2⟩:=ih _ hk;exact ⟨.fn f :: ds,h1,λt h K' hk'=>by simp only [iP,tv];exact h2 t h _ hk'⟩
theorem xH {α β:Type} {f g:β→α→β}:∀(l:List α) (b:β),(∀x∈l,∀b,f b x=g b x)→l.foldl f b=l.foldl g b:=by
 intro l
 induction l with
 |nil=>intro b _;rfl
 |cons x l ih=>intro b hx;simp only [cQ];rw [hx x (by simp),ih _ (λy hy=>hx y (by simp [hy]))]
theorem DR {α:Type} {f g:α→Bool}:∀(l:List α),(∀x∈l,f x=g x)→l.all f=l.all g:=by
 intro l
 induction l with
 |nil=>intro _;rfl
 |cons x l ih=>intro hx;simp only [lA];rw [hx x (by simp),ih (λy hy=>hx y (by simp [hy]))]
def NH (h1 h:H):Prop:=∀(i:Nat) (b:B),get? h i=some b→b≠.no→get? h1 i=some b
def Qt (P:Program) (x:X) (t:T) (h:H) (v:V):Prop:=
 ∀(t':T) (h1:H),(∀s∈bU x,gs t' s=gs t s)→NH h1 h→bq (Sat P) ow x t' h1 (λv' t'' h'=>v'=v∧t''=t'∧h'=h1) (λ_ _ _=>False)
theorem GZ {x:X} (hq:qx (Sat P) ow x t h K):∃v,K v∧Qt ow P x t h v:=by
  cases x<;>simp only [qx] at hq<;>try (exact hq.elim)
  case mv x=>
    refine ⟨_,hq,λt' _ ht _=>?_⟩
    simp only [bq,eE (x:=x) ht,true_and]
  case pk c x y=>
    simp only [bq] at hq
    split at hq
    · rename_i b hb
      cases b
      · refine ⟨_,hq,λt' _ ht _=>?_⟩
        simp only [bU,aR] at ht
        simp only [bq,eE (x:=c) (λs hs=>ht s (.inl (.inl hs))),eE (x:=y) (λs hs=>ht s (.inr hs)),hb,sp,true_and]
      · refine ⟨_,hq,λt' _ ht _=>?_⟩
        simp only [bU,aR] at ht
        simp only [bq,eE (x:=c) (λs hs=>ht s (.inl (.inl hs))),eE (x:=x) (λs hs=>ht s (.inl (.inr hs))),hb,sp,true_and]
    · exact hq.elim
  case bd zero ps=>
    simp only [bq,bf] at hq
    refine ⟨_,hq.2,λt' _ ht _=>?_⟩
    have hg:∀p∈ps,gv t' p.2.2=gv t p.2.2:=λp hp=>eE λs hs=>ht s (by simp only [bU,aO];exact ⟨p,hp,hs⟩)
    simp only [bq,bf]
    rw [xH (f:=λcs (p:Nat×Nat×O)=>lay cs p.1 (gv t' p.2.2).cs) (g:=λcs p=>lay cs p.1 (gv t p.2.2).cs) ps zero (λp hp b=>by rw [hg p hp]),
      DR (g:=λp=>Nat.beq (gv t p.2.2).cs.length p.2.1&&Nat.ble (p.1+p.2.1) zero.length&&(gv t p.2.2).cs.all fA) ps (λp hp=>by rw [hg p hp])]
    exact ⟨hq.1,by simp only [ν]⟩
  case bs z zero n ps=>
    simp only [bf] at hq
    obtain ⟨h1,h2⟩:=hq
    obtain ⟨ds,h3,h4⟩:=Nr _ _ h2
    refine ⟨_,h3,λt' _ ht _=>?_⟩
    have hg:∀p∈ps,gv t' p.2=gv t p.2:=λp hp=>eE λs hs=>ht s (by simp only [bU,aO];exact ⟨p,hp,hs⟩)
    simp only [bq,bf]
    rw [xH (f:=λcs (p:Nat×O)=>lay cs (p.1*z) (gv t' p.2).cs) (g:=λcs p=>lay cs (p.1*z) (gv t p.2).cs) ps _ (λp hp b=>by rw [hg p hp]),
      DR (g:=λp=>Nat.beq (gv t p.2).cs.length z&&Nat.ble (p.1*z+z) (n*z)&&(gv t p.2).cs.all fA) ps (λp hp=>by rw [hg p hp])]
    exact ⟨h1,h4 _ _ _ (zM (by simp only [ν]))⟩
  case ld x nn=>
    have e1:∀t':T,(∀s∈bU (.ld x nn),gs t' s=gs t s)→gv t' x=gv t x:=λt' ht=>eE λs hs=>ht s (by simp [bU,hs])
    simp only [bq,bf] at hq
    split at hq
    · rename_i id off hx
      split at hq
      · rename_i cs hg
        split at hq
        · split at hq
          · rename_i v hv
            exact ⟨_,hq,λt' _ ht hM=>by simp only [bq,e1 t' ht,hx,hM _ _ hg (by simp),hv,ν]⟩
          · exact hq.elim
        · exact ⟨_,hq.2,λt' _ ht hM=>by simp only [bq,bf,e1 t' ht,hx,hM _ _ hg (by simp),ν];exact ⟨hq.1,trivial⟩⟩
      · exact hq.elim
    · rename_i row off hx
      split at hq
      · split at hq
        · rename_i v hv
          exact ⟨_,hq,λt' _ ht _=>by simp only [bq,e1 t' ht,hx,hv,ν]⟩
        · exact hq.elim
      · exact ⟨_,hq.2,λt' _ ht _=>by simp only [bq,bf,e1 t' ht,hx,ν];exact ⟨hq.1,trivial⟩⟩
    · rename_i id z i off hx
      split at hq
      · rename_i z' rs hg
        obtain ⟨hz,row,hr,hq⟩:=hq
        split at hq
        · split at hq
          · rename_i v hv
            exact ⟨_,hq,λt' _ ht hM=>by simp only [bq,e1 t' ht,hx,hM _ _ hg (by simp)];exact ⟨hz,row,hr,by simp only [hv,ν]⟩⟩
          · exact hq.elim
        · exact ⟨_,hq.2,λt' _ ht hM=>by simp only [bq,bf,e1 t' ht,hx,hM _ _ hg (by simp)];exact ⟨hz,row,hr,hq.1,by simp only [ν]⟩⟩
      · rename_i z' rs i' row hg
        obtain ⟨hz,hq⟩:=hq
        split at hq
        · split at hq
          · rename_i v hv
            exact ⟨_,hq,λt' _ ht hM=>by simp only [bq,e1 t' ht,hx,hM _ _ hg (by simp)];exact ⟨hz,by simp only [hv,ν]⟩⟩
          · exact hq.elim
        · exact hq.elim
      · exact hq.elim
    · exact hq.elim
  case fa x off=>
    have e1:∀t':T,(∀s∈bU (.fa x off),gs t' s=gs t s)→gv t' x=gv t x:=λt' ht=>eE λs hs=>ht s (by simp [bU,hs])
    simp only [bq,cZ] at hq
    revert hq
    (repeat' split)<;>intro hq<;>(try (exact hq.elim))
    all_goals exact ⟨_,hq,λt' _ ht _=>by simp only [bq,cZ,e1 t' ht, *,ν]⟩
  case ia x i z=>
    have e1:∀t':T,(∀s∈bU (.ia x i z),gs t' s=gs t s)→gv t' x=gv t x:=λt' ht=>eE λs hs=>ht s (by simp [bU,hs])
    have e2:∀t':T,(∀s∈bU (.ia x i z),gs t' s=gs t s)→gv t' i=gv t i:=λt' ht=>eE λs hs=>ht s (by simp [bU,hs])
    simp only [bq] at hq
    split at hq
    · rename_i k nn hi
      split at hq
      · rename_i z' rows hx
        obtain ⟨row,h1,h2⟩:=hq
        exact ⟨_,h2,λt' _ ht _=>by simp only [bq,e1 t' ht,e2 t' ht,hx,hi];exact ⟨row,h1,by simp only [ν]⟩⟩
      · rename_i z' rows hx
        obtain ⟨row,h1,h2⟩:=hq
        exact ⟨_,h2,λt' _ ht _=>by simp only [bq,e1 t' ht,e2 t' ht,hx,hi];exact ⟨row,h1,by simp only [ν]⟩⟩
      · rename_i id hx
        split at hq
        · rename_i z' rs hg
          exact ⟨_,hq.2,λt' _ ht hM=>by simp only [bq,e1 t' ht,e2 t' ht,hx,hi,hM _ _ hg (by simp)];exact ⟨hq.1,by simp only [ν]⟩⟩
        · exact hq.elim
      · exact hq.elim
    · exact hq.elim
  case ja x i z m=>
    have e1:∀t':T,(∀s∈bU (.ja x i z m),gs t' s=gs t s)→gv t' x=gv t x:=λt' ht=>eE λs hs=>ht s (by simp [bU,hs])
    have e2:∀t':T,(∀s∈bU (.ja x i z m),gs t' s=gs t s)→gv t' i=gv t i:=λt' ht=>eE λs hs=>ht s (by simp [bU,hs])
    simp only [bq,cZ] at hq
    split at hq
    · rename_i k nn hi
      split at hq
      · rename_i row off hx
        obtain ⟨sub,h1,h2⟩:=hq
        exact ⟨_,h2,λt' _ ht _=>by simp only [bq,e1 t' ht,e2 t' ht,hx,hi];exact ⟨sub,h1,by simp only [ν]⟩⟩
      · rename_i id off hx
        exact ⟨_,hq.2,λt' _ ht _=>by simp only [bq,cZ,e1 t' ht,e2 t' ht,hx,hi];exact ⟨hq.1,by simp only [ν]⟩⟩
      · exact hq.elim
    · exact hq.elim
  case ml x k ks zv ok=>
    have e1:∀t':T,(∀s∈bU (.ml x k ks zv ok),gs t' s=gs t s)→gv t' x=gv t x:=λt' ht=>eE λs hs=>ht s (by simp [bU,hs])
    have e2:∀t':T,(∀s∈bU (.ml x k ks zv ok),gs t' s=gs t s)→gv t' k=gv t k:=λt' ht=>eE λs hs=>ht s (by simp [bU,hs])
    cases hms:Qn h (gv t x)
    case true=>rw [hms] at hq;exact hq.elim
    rw [hms] at hq
    simp only [ε,bq] at hq
    split at hq
    · rename_i id hx
      split at hq
      · rename_i es hg
        obtain ⟨h1,r,h2,h3⟩:=hq
        cases r with
        |none=>exact ⟨_,h3,λt' _ ht hM=>by simp only [bq,e1 t' ht,e2 t' ht,hx,hM _ _ hg (by simp)];exact ⟨h1,none,h2,by simp only [ν]⟩⟩
        |some p=>exact ⟨_,h3.2,λt' _ ht hM=>by simp only [bq,e1 t' ht,e2 t' ht,hx,hM _ _ hg (by simp)];exact ⟨h1,some p,h2,h3.1,by simp only [ν]⟩⟩
      · rename_i es hg
        obtain ⟨h1,r,h2,h3⟩:=hq
        cases r with
        |none=>exact ⟨_,h3,λt' _ ht hM=>by simp only [bq,e1 t' ht,e2 t' ht,hx,hM _ _ hg (by simp)];exact ⟨h1,none,h2,by simp only [ν]⟩⟩
        |some p=>exact ⟨_,h3.2,λt' _ ht hM=>by simp only [bq,e1 t' ht,e2 t' ht,hx,hM _ _ hg (by simp)];exact ⟨h1,some p,h2,h3.1,by simp only [ν]⟩⟩
      · rename_i es r l hg
        obtain ⟨h1,r,h2,h3⟩:=hq
        cases r with
        |none=>exact ⟨_,h3,λt' _ ht hM=>by simp only [bq,e1 t' ht,e2 t' ht,hx,hM _ _ hg (by simp)];exact ⟨h1,none,h2,by simp only [ν]⟩⟩
        |some p=>exact ⟨_,h3.2,λt' _ ht hM=>by simp only [bq,e1 t' ht,e2 t' ht,hx,hM _ _ hg (by simp)];exact ⟨h1,some p,h2,h3.1,by simp only [ν]⟩⟩
      · rename_i hg
        simp only [Qn,hx,hg] at hms
        cases hms
      · exact hq.elim
    · rename_i hx
      exact ⟨_,hq.2,λt' _ ht _=>by simp only [bq,e1 t' ht,e2 t' ht,hx];exact ⟨hq.1,by simp only [ν]⟩⟩
    · exact hq.elim
  case pu f x=>
    have e1:∀t':T,(∀s∈bU (.pu f x),gs t' s=gs t s)→gv t' x=gv t x:=λt' ht=>eE λs hs=>ht s (by simp [bU,hs])
    simp only [bq] at hq
    split at hq
    · rename_i v hv
      exact ⟨_,hq,λt' _ ht _=>by simp only [bq,e1 t' ht,hv,ν]⟩
    · exact hq.elim
  case lm x=>
    have e1:∀t':T,(∀s∈bU (.lm x),gs t' s=gs t s)→gv t' x=gv t x:=λt' ht=>eE λs hs=>ht s (by simp [bU,hs])
    simp only [bq] at hq
    split at hq
    · rename_i id hx
      split at hq
      · rename_i es hg
        exact ⟨_,hq,λt' _ ht hM=>by simp only [bq,e1 t' ht,hx,hM _ _ hg (by simp),ν]⟩
      · rename_i es hg
        exact ⟨_,hq,λt' _ ht hM=>by simp only [bq,e1 t' ht,hx,hM _ _ hg (by simp),ν]⟩
      · rename_i hg
        exact ⟨_,hq,λt' _ ht hM=>by simp only [bq,e1 t' ht,hx,hM _ _ hg (by simp),ν]⟩
      · rename_i hg
        exact ⟨_,hq,λt' _ ht hM=>by simp only [bq,e1 t' ht,hx,hM _ _ hg (by simp),ν]⟩
      · exact hq.elim
    · rename_i hx
      exact ⟨_,hq,λt' _ ht _=>by simp only [bq,e1 t' ht,hx,ν]⟩
    · exact hq.elim
  case bin op x y=>
    have e1:∀t':T,(∀s∈bU (.bin op x y),gs t' s=gs t s)→gv t' x=gv t x:=λt' ht=>eE λs hs=>ht s (by simp [bU,hs])
    have e2:∀t':T,(∀s∈bU (.bin op x y),gs t' s=gs t s)→gv t' y=gv t y:=λt' ht=>eE λs hs=>ht s (by simp [bU,hs])
    simp only [bq] at hq
    split at hq
    · rename_i aa bb hx hy
      split at hq
      · exact ⟨_,hq.2,λt' _ ht _=>by simp only [bq,e1 t' ht,e2 t' ht,hx,hy];exact ⟨hq.1,by simp only [ν]⟩⟩
      · exact hq.elim
    · rename_i k aa k' bb hx hy
      cases hsh:S5 op
      rotate_left
      · rw [hsh] at hq
        simp only [δ] at hq
        exact ⟨_,hq.2,λt' _ ht _=>by simp only [bq,e1 t' ht,e2 t' ht,hx,hy,hsh,δ];exact ⟨hq.1,by simp only [ν]⟩⟩
      rw [hsh] at hq
      simp only [ε] at hq
      cases hk:Nat.beq (kn k) (kn k')
      · rw [hk] at hq;exact hq.elim
      · rw [hk] at hq
        simp only [δ] at hq
        split at hq<;>(try (exact hq.elim))
        · rcases hq with hq | hq
          · exact ⟨_,hq.2,λt' _ ht _=>by simp only [bq,e1 t' ht,e2 t' ht,hx,hy,hsh,ε,hk,δ,xX];exact .inl ⟨hq.1,by simp only [ν]⟩⟩
          · exact ⟨_,hq,λt' _ ht _=>by simp only [bq,e1 t' ht,e2 t' ht,hx,hy,hsh,ε,hk,δ,xX];exact .inr (by simp only [ν])⟩
        · rcases hq with hq | hq
          · exact ⟨_,hq.2,λt' _ ht _=>by simp only [bq,e1 t' ht,e2 t' ht,hx,hy,hsh,ε,hk,δ,xX];exact .inl ⟨hq.1,by simp only [ν]⟩⟩
          · exact ⟨_,hq,λt' _ ht _=>by simp only [bq,e1 t' ht,e2 t' ht,hx,hy,hsh,ε,hk,δ,xX];exact .inr (by simp only [ν])⟩
        · rcases hq with hq | hq
          · exact ⟨_,hq.2,λt' _ ht _=>by simp only [bq,e1 t' ht,e2 t' ht,hx,hy,hsh,ε,hk,δ,xX];exact .inl ⟨hq.1,by simp only [ν]⟩⟩
          · exact ⟨_,hq,λt' _ ht _=>by simp only [bq,e1 t' ht,e2 t' ht,hx,hy,hsh,ε,hk,δ,xX];exact .inr (by simp only [ν])⟩
        · obtain ⟨h0,hq⟩:=hq
          rcases hq with hq | hq
          · exact ⟨_,hq.2,λt' _ ht _=>by simp only [bq,e1 t' ht,e2 t' ht,hx,hy,hsh,ε,hk,δ,xX];exact ⟨h0,.inl ⟨hq.1,by simp only [ν]⟩⟩⟩
          · exact ⟨_,hq,λt' _ ht _=>by simp only [bq,e1 t' ht,e2 t' ht,hx,hy,hsh,ε,hk,δ,xX];exact ⟨h0,.inr (by simp only [ν])⟩⟩
        · exact ⟨_,hq.2,λt' _ ht _=>by simp only [bq,e1 t' ht,e2 t' ht,hx,hy,hsh,ε,hk,δ];exact ⟨hq.1,by simp only [ν]⟩⟩
        all_goals exact ⟨_,hq,λt' _ ht _=>by simp only [bq,e1 t' ht,e2 t' ht,hx,hy,hsh,ε,hk,δ,ν]⟩
    · exact hq.elim
  case eq ne st ks x y=>
    have e1:∀t':T,(∀s∈bU (.eq ne st ks x y),gs t' s=gs t s)→gv t' x=gv t x:=λt' ht=>eE λs hs=>ht s (by simp [bU,hs])
    have e2:∀t':T,(∀s∈bU (.eq ne st ks x y),gs t' s=gs t s)→gv t' y=gv t y:=λt' ht=>eE λs hs=>ht s (by simp [bU,hs])
    simp only [bq] at hq
    obtain ⟨h1,hq⟩:=hq
    unfold UK at hq
    split at hq
    · rename_i e he
      exact ⟨_,hq,λt' _ ht _=>by simp only [bq,e1 t' ht,e2 t' ht,UK,he,ν,ω];exact h1⟩
    · exact hq.elim
  case un op x=>
    have e1:∀t':T,(∀s∈bU (.un op x),gs t' s=gs t s)→gv t' x=gv t x:=λt' ht=>eE λs hs=>ht s (by simp [bU,hs])
    simp only [bq] at hq
    split at hq
    · rename_i b hx
      exact ⟨_,hq,λt' _ ht _=>by simp only [bq,e1 t' ht,hx,ν]⟩
    · rename_i k aa hx
      rcases hq with hq | hq
      · exact ⟨_,hq.2,λt' _ ht _=>by simp only [bq,e1 t' ht,hx,xX];exact .inl ⟨hq.1,by simp only [ν]⟩⟩
      · exact ⟨_,hq,λt' _ ht _=>by simp only [bq,e1 t' ht,hx,xX];exact .inr (by simp only [ν])⟩
    · exact hq.elim
  case cv k x=>
    have e1:∀t':T,(∀s∈bU (.cv k x),gs t' s=gs t s)→gv t' x=gv t x:=λt' ht=>eE λs hs=>ht s (by simp [bU,hs])
    simp only [bq] at hq
    split at hq
    · rename_i k' aa hx
      rcases hq with hq | hq
      · exact ⟨_,hq.2,λt' _ ht _=>by simp only [bq,e1 t' ht,hx,xX];exact .inl ⟨hq.1,by simp only [ν]⟩⟩
      · exact ⟨_,hq,λt' _ ht _=>by simp only [bq,e1 t' ht,hx,xX];exact .inr (by simp only [ν])⟩
    · exact hq.elim
  case ln x=>
    have e1:∀t':T,(∀s∈bU (.ln x),gs t' s=gs t s)→gv t' x=gv t x:=λt' ht=>eE λs hs=>ht s (by simp [bU,hs])
    split at hq
    · rename_i z r hx
      exact ⟨_,hq,λt' _ ht _=>by simp only [bq,e1 t' ht,hx];exact λ_=>by simp only [ν]⟩
    · rename_i z r hx
      exact ⟨_,hq,λt' _ ht _=>by simp only [bq,e1 t' ht,hx];exact λ_=>by simp only [ν]⟩
    · rename_i id hx
      split at hq
      · rename_i z r hg
        exact ⟨_,hq,λt' _ ht hM=>by simp only [bq,e1 t' ht,hx,hM _ _ hg (by simp)];exact λ_=>by simp only [ν]⟩
      · exact hq.elim
    · exact hq.elim
  case ls x=>
    have e1:∀t':T,(∀s∈bU (.ls x),gs t' s=gs t s)→gv t' x=gv t x:=λt' ht=>eE λs hs=>ht s (by simp [bU,hs])
    split at hq
    · rename_i r hx
      exact ⟨_,hq,λt' _ ht _=>by simp only [bq,e1 t' ht,hx];exact λ_=>by simp only [ν]⟩
    · exact hq.elim
  case mn x y=>
    have e1:∀t':T,(∀s∈bU (.mn x y),gs t' s=gs t s)→gv t' x=gv t x:=λt' ht=>eE λs hs=>ht s (by simp [bU,hs])
    have e2:∀t':T,(∀s∈bU (.mn x y),gs t' s=gs t s)→gv t' y=gv t y:=λt' ht=>eE λs hs=>ht s (by simp [bU,hs])
    simp only [bq] at hq
    split at hq
    · rename_i k aa k' bb hx hy
      exact ⟨_,hq,λt' _ ht _=>by simp only [bq,e1 t' ht,e2 t' ht,hx,hy,ν]⟩
    · exact hq.elim
  case mx x y=>
    have e1:∀t':T,(∀s∈bU (.mx x y),gs t' s=gs t s)→gv t' x=gv t x:=λt' ht=>eE λs hs=>ht s (by simp [bU,hs])
    have e2:∀t':T,(∀s∈bU (.mx x y),gs t' s=gs t s)→gv t' y=gv t y:=λt' ht=>eE λs hs=>ht s (by simp [bU,hs])
    simp only [bq] at hq
    split at hq
    · rename_i k aa k' bb hx hy
      exact ⟨_,hq,λt' _ ht _=>by simp only [bq,e1 t' ht,e2 t' ht,hx,hy,ν]⟩
    · exact hq.elim
  case ex x i=>
    have e1:∀t':T,(∀s∈bU (.ex x i),gs t' s=gs t s)→gv t' x=gv t x:=λt' ht=>eE λs hs=>ht s (by simp [bU,hs])
    simp only [bq] at hq
    revert hq
    (repeat' split)<;>intro hq<;>(try (exact hq.elim))
    all_goals exact ⟨_,hq,λt' _ ht _=>by simp only [bq,e1 t' ht, *,ν]⟩
  case nc x=>
    have e1:∀t':T,(∀s∈bU (.nc x),gs t' s=gs t s)→gv t' x=gv t x:=λt' ht=>eE λs hs=>ht s (by simp [bU,hs])
    simp only [bq] at hq
    revert hq
    (repeat' split)<;>intro hq<;>(try (exact hq.elim))
    all_goals first
      |exact ⟨_,hq,λt' _ ht _=>by simp only [bq,e1 t' ht, *,ν]⟩
      | (rename_i f c hg
         cases hb:Nat.blt f 2000000<;>rw [hb] at hq
         · exact hq.elim
         · exact ⟨_,hq,λt' _ ht _=>by simp only [bq,e1 t' ht,hg,hb,δ,ν]⟩)
  case ix x i=>
    have e1:∀t':T,(∀s∈bU (.ix x i),gs t' s=gs t s)→gv t' x=gv t x:=λt' ht=>eE λs hs=>ht s (by simp [bU,hs])
    have e2:∀t':T,(∀s∈bU (.ix x i),gs t' s=gs t s)→gv t' i=gv t i:=λt' ht=>eE λs hs=>ht s (by simp [bU,hs])
    simp only [bq] at hq
    split at hq
    · rename_i s k m hx hi
      obtain ⟨b,h1,h2⟩:=hq
      exact ⟨_,h2,λt' _ ht _=>by simp only [bq,e1 t' ht,e2 t' ht,hx,hi];exact ⟨b,h1,by simp only [ν]⟩⟩
    · exact hq.elim
  case mf f caps=>
    simp only [bq,bf] at hq
    refine ⟨_,hq.2,λt' _ ht _=>?_⟩
    have hg:∀p∈caps,gv t' p=gv t p:=λp hp=>eE λs hs=>ht s (by simp only [bU,aO];exact ⟨p,hp,hs⟩)
    simp only [bq,bf]
    rw [aZ hg,DR (g:=λx=>uI (gv t x)) caps (λp hp=>by rw [hg p hp])]
    exact ⟨hq.1,by simp only [ν]⟩
  case cf f args=>
    simp only [bf] at hq
    obtain ⟨h0,r,h2,h3⟩:=hq
    refine ⟨r,h3,λt' h1 ht _=>?_⟩
    have hg:∀p∈args,cH (gv t' p)=cH (gv t p):=λp hp=>by rw [eE λs hs=>ht s (by simp only [bU,aO];exact ⟨p,hp,hs⟩)]
    simp only [bq,bf]
    rw [aZ hg]
    have h4:=gD.1 h0
    have h6:qA (Sat P) f (args.map λa=>cH (gv t a)) t' h1 (λv' t'' h'=>v'=r∧t''=t'∧h'=h1) (λ_ _ _=>False):=by
      simp only [qA,h4]
      exact h2.mono λo h' ⟨g1,g2⟩=>by subst g1 g2;simp only [ν]
    cases ow f
    · simp only [px,h4,ε]
      exact h6
    · exact h6
  case ap x y z b=>
    have e1:∀t':T,(∀s∈bU (.ap x y z b),gs t' s=gs t s)→KL t' x=KL t x:=λt' ht=>by
      have:=eE (t:=t) (t':=t') (x:=x) λs hs=>ht s (by simp [bU,hs])
      cases x with
      |s i=>exact this
      |g i=>exact this
      |k v=>cases v<;>first | exact this | rfl
    have e2:∀t':T,(∀s∈bU (.ap x y z b),gs t' s=gs t s)→gv t' y=gv t y:=λt' ht=>eE λs hs=>ht s (by simp [bU,hs])
    split at hq
    · rename_i z' r hx
      have eg:KL t (.k (.cl z' r)) = .cl z' r:=rfl
      simp only [bq,eg] at hq
      split at hq
      · rename_i z'' ys hy
        exact ⟨_,hq.2,λt' _ ht _=>by simp only [bq,e1 t' ht,e2 t' ht,hx,hy];exact ⟨hq.1,by simp only [ν]⟩⟩
      · rename_i z'' ys hy
        exact ⟨_,hq.2,λt' _ ht _=>by simp only [bq,e1 t' ht,e2 t' ht,hx,hy];exact ⟨hq.1,by simp only [ν]⟩⟩
      · exact hq.elim
    · rename_i z0 hx
      split at hq
      · rename_i z'' ys hy
        exact ⟨_,hq.2,λt' _ ht _=>by simp only [bq,e1 t' ht,e2 t' ht,hx,hy];exact ⟨hq.1,uR (by simp only [ν])⟩⟩
      · rename_i z'' ys hy
        exact ⟨_,hq.2,λt' _ ht _=>by simp only [bq,e1 t' ht,e2 t' ht,hx,hy];exact ⟨hq.1,uR (by simp only [ν])⟩⟩
      · exact hq.elim
    · exact hq.elim
  case ss x lo hi=>
    have e1:∀t':T,(∀s∈bU (.ss x lo hi),gs t' s=gs t s)→gv t' x=gv t x:=λt' ht=>eE λs hs=>ht s (by simp [bU,hs])
    have e2:∀t':T,(∀s∈bU (.ss x lo hi),gs t' s=gs t s)→∀u,lo=some u→gv t' u=gv t u:=λt' ht u hu=>eE λs hs=>ht s (by simp [bU,KG,hs,hu])
    have e3:∀t':T,(∀s∈bU (.ss x lo hi),gs t' s=gs t s)→∀u,hi=some u→gv t' u=gv t u:=λt' ht u hu=>eE λs hs=>ht s (by simp [bU,KG,hs,hu])
    cases lo with
    |none=>
      simp only [bq] at hq
      split at hq
      · rename_i k l hl
        cases hl
        split at hq
        · rename_i r hx
          exact ⟨_,hq.2,λt' _ ht _=>by simp only [bq,e1 t' ht,hx];exact ⟨hq.1,by simp only [ν]⟩⟩
        · exact hq.elim
      · rename_i k l hi hl
        cases hl
        split at hq
        · rename_i k' u hu
          split at hq
          · rename_i r hx
            exact ⟨_,hq.2,λt' _ ht _=>by simp only [bq,e1 t' ht,e3 t' ht _ rfl,hu,hx];exact ⟨hq.1,by simp only [ν]⟩⟩
          · exact hq.elim
        · exact hq.elim
      · exact hq.elim
    |some lo=>
      simp only [bq] at hq
      split at hq
      · rename_i k l hl
        split at hq
        · rename_i r hx
          exact ⟨_,hq.2,λt' _ ht _=>by simp only [bq,e1 t' ht,e2 t' ht _ rfl,hl,hx];exact ⟨hq.1,by simp only [ν]⟩⟩
        · exact hq.elim
      · rename_i k l hi hl
        split at hq
        · rename_i k' u hu
          split at hq
          · rename_i r hx
            exact ⟨_,hq.2,λt' _ ht _=>by simp only [bq,e1 t' ht,e2 t' ht _ rfl,e3 t' ht _ rfl,hl,hu,hx];exact ⟨hq.1,by simp only [ν]⟩⟩
          · exact hq.elim
        · exact hq.elim
      · exact hq.elim
  case s3 x lo hi m z=>
    replace hq:(∀i,gv t x≠.os i)∧bq (Sat P) ow (.s3 x lo hi m z) t h (λv _ _=>K v) λ_ _ _=>False:=by
      split at hq
      · exact hq.elim
      · rename_i hno
        exact ⟨hno,hq⟩
    obtain ⟨hno,hq⟩:=hq
    have hno':∀i,dv (gv t x)≠.os i:=λi hi=>by
      cases hg:gv t x<;>rw [hg] at hi<;>simp only [dv,reduceCtorEq,V.os.injEq] at hi
      subst hi
      exact hno _ hg
    have e1:∀t':T,(∀s∈bU (.s3 x lo hi m z),gs t' s=gs t s)→gv t' x=gv t x:=λt' ht=>eE λs hs=>ht s (by simp [bU,hs])
    have e2:∀t':T,(∀s∈bU (.s3 x lo hi m z),gs t' s=gs t s)→∀u,lo=some u→gv t' u=gv t u:=λt' ht u hu=>eE λs hs=>ht s (by simp [bU,KG,hs,hu])
    have e3:∀t':T,(∀s∈bU (.s3 x lo hi m z),gs t' s=gs t s)→∀u,hi=some u→gv t' u=gv t u:=λt' ht u hu=>eE λs hs=>ht s (by simp [bU,KG,hs,hu])
    have e4:∀t':T,(∀s∈bU (.s3 x lo hi m z),gs t' s=gs t s)→∀u,m=some u→gv t' u=gv t u:=λt' ht u hu=>eE λs hs=>ht s (by simp [bU,KG,hs,hu])
    cases lo with
    |none=>
      simp only [bq] at hq
      split at hq
      · rename_i k l hl
        cases hl
        split at hq
        · rename_i z' r hx
          exact ⟨_,hq.2,λt' _ ht _=>by simp only [bq,e1 t' ht,hx];exact ⟨hq.1,by simp only [ν]⟩⟩
        · rename_i z' r hx
          exact ⟨_,hq.2,λt' _ ht _=>by simp only [bq,e1 t' ht,hx];exact ⟨hq.1,by simp only [ν]⟩⟩
        · rename_i i hx;exact absurd hx (hno' i)
        · exact hq.elim
      · rename_i k l hi hl
        cases hl
        split at hq
        · rename_i k' u hu
          split at hq
          · rename_i z' r hx
            exact ⟨_,hq.2,λt' _ ht _=>by simp only [bq,e1 t' ht,e3 t' ht _ rfl,hu,hx];exact ⟨hq.1,by simp only [ν]⟩⟩
          · rename_i z' r hx
            exact ⟨_,hq.2,λt' _ ht _=>by simp only [bq,e1 t' ht,e3 t' ht _ rfl,hu,hx];exact ⟨hq.1,by simp only [ν]⟩⟩
          · rename_i i hx;exact absurd hx (hno' i)
          · exact hq.elim
        · exact hq.elim
      · rename_i k l hi m hl
        cases hl
        split at hq
        · rename_i k' u k'' u' hu hm
          split at hq
          · rename_i z' r hx
            exact ⟨_,hq.2,λt' _ ht _=>by simp only [bq,e1 t' ht,e3 t' ht _ rfl,e4 t' ht _ rfl,hu,hm,hx];exact ⟨hq.1,by simp only [ν]⟩⟩
          · rename_i z' r hx
            exact ⟨_,hq.2,λt' _ ht _=>by simp only [bq,e1 t' ht,e3 t' ht _ rfl,e4 t' ht _ rfl,hu,hm,hx];exact ⟨hq.1,by simp only [ν]⟩⟩
          · exact hq.elim
        · exact hq.elim
      · exact hq.elim
    |some lo=>
      simp only [bq] at hq
      split at hq
      · rename_i k l hl
        split at hq
        · rename_i z' r hx
          exact ⟨_,hq.2,λt' _ ht _=>by simp only [bq,e1 t' ht,e2 t' ht _ rfl,hl,hx];exact ⟨hq.1,by simp only [ν]⟩⟩
        · rename_i z' r hx
          exact ⟨_,hq.2,λt' _ ht _=>by simp only [bq,e1 t' ht,e2 t' ht _ rfl,hl,hx];exact ⟨hq.1,by simp only [ν]⟩⟩
        · rename_i i hx;exact absurd hx (hno' i)
        · exact hq.elim
      · rename_i k l hi hl
        split at hq
        · rename_i k' u hu
          split at hq
          · rename_i z' r hx
            exact ⟨_,hq.2,λt' _ ht _=>by simp only [bq,e1 t' ht,e2 t' ht _ rfl,e3 t' ht _ rfl,hl,hu,hx];exact ⟨hq.1,by simp only [ν]⟩⟩
          · rename_i z' r hx
            exact ⟨_,hq.2,λt' _ ht _=>by simp only [bq,e1 t' ht,e2 t' ht _ rfl,e3 t' ht _ rfl,hl,hu,hx];exact ⟨hq.1,by simp only [ν]⟩⟩
          · rename_i i hx;exact absurd hx (hno' i)
          · exact hq.elim
        · exact hq.elim
      · rename_i k l hi m hl
        split at hq
        · rename_i k' u k'' u' hu hm
          split at hq
          · rename_i z' r hx
            exact ⟨_,hq.2,λt' _ ht _=>by simp only [bq,e1 t' ht,e2 t' ht _ rfl,e3 t' ht _ rfl,e4 t' ht _ rfl,hl,hu,hm,hx];exact ⟨hq.1,by simp only [ν]⟩⟩
          · rename_i z' r hx
            exact ⟨_,hq.2,λt' _ ht _=>by simp only [bq,e1 t' ht,e2 t' ht _ rfl,e3 t' ht _ rfl,e4 t' ht _ rfl,hl,hu,hm,hx];exact ⟨hq.1,by simp only [ν]⟩⟩
          · exact hq.elim
        · exact hq.elim
      · exact hq.elim
end
end Go.Vx
