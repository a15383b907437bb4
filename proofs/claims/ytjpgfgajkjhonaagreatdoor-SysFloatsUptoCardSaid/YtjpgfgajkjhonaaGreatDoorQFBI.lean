/- What the rows' list gives: the table of the ops is what the functions read; and a world that holds all of the list. Conditions: the list's own. -/
import Derived.Test.YtjpgfgajkjhonaaGreatDoorQFAR
import Derived.Test.YtjpgfgajkjhonaaGreatDoorQFBH
import Derived.Test.YtjpgfgajkjhonaaGreatDoorCards
import Derived.Test.YtjpgfgajkjhonaaGreatDoorTie
import Derived.Deep.DeepHandedRow
import Derived.Deep.DeepWitnessRowRef
import Derived.Lib.LaidTab
import Derived.Lib.SmallJoins
import Derived.Stop.LaidErr
import Derived.Lay
import Derived.Test.YtjpgfgajkjhonaaGreatDoorQFBG
import Derived.Test.YtjpgfgajkjhonaaGreatDoorQFBE
import Derived.Test.YtjpgfgajkjhonaaGreatDoorQFBF
import Derived.Test.YtjpgfgajkjhonaaGreatDoorQFAT
namespace Go.Proofs.YtjpgfgajkjhonaaGreatDoor
open Go.Vx
set_option maxRecDepth 100000
open Go.ChangeShapes Go.WideShapes Go.ChangeAt Go.RowKit
def Rr {H:Type}:List D→DataW H
 |[.str s,.int _ a,.int _ b,.int _ c]=>.agg [.lit (.string s),.lit (.int .u8 a),.lit (.int .u8 b),.lit (.int .u8 c)]
 |_=>.nil
theorem KE {H:Type}:(Rows.laid_lazaretto_op_table:DataW H) = .agg (g_.map Rr):=rfl
theorem Fz:laidOutB Tryz.prog=true:=by kernel_rfl
theorem TK:ownKnob Tryz.prog.godebug=none:=by kernel_rfl
theorem Tb:Tryz.prog.globalNamed "lazaretto/op.table" = some 0:=by kernel_rfl
theorem KT:(Tryz.prog.globals[0]?).map (·.type)=some 276:=by kernel_rfl
theorem HO:Tryz.prog.cellsOf 276=188:=by kernel_rfl
theorem yR:Tryz.prog.cellsOf 275=4:=by kernel_rfl
theorem PG:Tryz.prog.cellsOf 5=1:=by kernel_rfl
theorem PF:Tryz.prog.cellsOf 9=1:=by kernel_rfl
theorem KV {α:Type} {cs:List α} (h:cs.length=4):∃c0 c1 c2 c3,cs = [c0,c1,c2,c3]:=by
 match cs,h with
 |[c0,c1,c2,c3],_=>exact ⟨c0,c1,c2,c3,rfl⟩
theorem Mi {H:Type} {enc:TypeId×Value→H} {w:World} {base:Nat} {sp:Nat→Bool} {held:Bool} {fuel:Nat} {cs:List Value} {s:List UInt8} {a b c:Int} {p:List MemPlace} (G:Nat→Prop)
  (h:DataW.trod enc Tryz.prog w base sp held fuel 275 cs=some (.agg [.lit (.string s),.lit (.int .u8 a),.lit (.int .u8 b),.lit (.int .u8 c)],p)) :
  cs.length=4∧∀(j:Nat) (x:D),[D.str s,.int .u8 a,.int .u8 b,.int .u8 c][j]? = some x→∃v,cs[j]? = some v∧br G w v x:=by
 obtain ⟨y0,y1,y2,y3,n,hx,hl,h0,h1,h2,h3⟩:=Go.Joins.trod_struct4 Tryz.underlying275 h;rw [yR] at hl;obtain ⟨c0,c1,c2,c3,rfl⟩:∃c0 c1 c2 c3,cs = [c0,c1,c2,c3]:=KV hl;simp only [PF,PG,List.drop_zero,ly,dV,List.take_zero] at h0 h1 h2 h3;obtain ⟨s',e0,rfl,hs⟩:=DataW.trod_string Tryz.underlying9 h0;obtain ⟨a',e1,rfl,_⟩:=DataW.trod_int Tryz.underlying5 h1;obtain ⟨b',e2,rfl,_⟩:=DataW.trod_int Tryz.underlying5 h2;obtain ⟨c',e3,rfl,_⟩:=DataW.trod_int Tryz.underlying5 h3;simp only [List.cons.injEq,and_true] at e0 e1 e2 e3;subst e0 e1 e2 e3;simp only [dy,DataW.agg.injEq,List.cons.injEq,DataW.lit.injEq,Lit.string.injEq,Lit.int.injEq,and_true,true_and] at hx;obtain ⟨⟨rfl,rfl,rfl,rfl⟩,_⟩:=hx;refine ⟨rfl,λj x hj=>?_⟩
 match j,hj with
 |0,hj=>cases hj;exact ⟨_,rfl,.str s' hs⟩
 |1,hj=>cases hj;exact ⟨_,rfl,.int .u8 _⟩
 |2,hj=>cases hj;exact ⟨_,rfl,.int .u8 _⟩
 |3,hj=>cases hj;exact ⟨_,rfl,.int .u8 _⟩
 |j+4,hj=>simp at hj
theorem F0:∀i,i<47→∃s a b c,g_[i]? = some [.str s,.int .u8 a,.int .u8 b,.int .u8 c]:=by
 intro i hi
 match i,hi with
 |0,_ | 1,_ | 2,_ | 3,_ | 4,_ | 5,_ | 6,_ | 7,_ | 8,_ | 9,_ | 10,_ | 11,_ | 12,_ | 13,_ | 14,_ | 15,_ | 16,_ | 17,_ | 18,_ | 19,_ | 20,_ | 21,_ | 22,_ | 23,_ | 24,_ | 25,_ | 26,_ | 27,_ | 28,_ | 29,_ | 30,_ | 31,_ | 32,_ | 33,_ | 34,_ | 35,_ | 36,_ | 37,_ | 38,_ | 39,_ | 40,_ | 41,_ | 42,_ | 43,_ | 44,_ | 45,_ | 46,_=>exact ⟨_,_,_,_,rfl⟩
 |n+47,h=>omega
theorem Lt:∀(l:List (List D)),(∀r∈l,r.length=4)→∀(j:Nat),l.flatten[j]? = (l[j / 4]?).bind (·[j % 4]?)
 |[],_,j=>by simp
 |r :: l,h,j=>by
  have hr:=h r (by simp);rw [List.flatten_cons]
  by_cases hj:j<4
  ·rw [aN (by omega),Nat.div_eq_of_lt hj,cT hj];simp
  ·rw [aW (by omega),Lt l (λx hx=>h x (by simp [hx])),hr,show j / 4=(j - 4) / 4+1 by omega,show j % 4=(j - 4) % 4 by omega];simp
theorem G5 (j:Nat):j / 4*4+j % 4=j:=by omega
theorem Jn {l:List (List D)} {n i:Nat} {f:List D→Option D} {x:D} {A:Prop} (hl:l.length=n) (h:¬i<n) (hx:(l[i]?).bind f=some x):A:=by
 rw [dB (by omega)] at hx;cases hx
theorem NH:g_.length=47:=rfl
theorem Je:∀r∈g_,r.length=4:=by decide
theorem QH {k g:Nat} {r row:List D} (h:zA [(k,r)] g=some row):g=k∧row=r:=by
 simp only [zA] at h;cases hb:Nat.beq k g with
 |false=>rw [hb] at h;cases h
 |true=>
  rw [hb] at h;exact ⟨(dA hb).symm,(ak h).symm⟩
theorem Nj {W:World} (h:laidMet Tryz.prog Rows.sysThrowsRow.laid W):P1 (all W) W:=by
 have h7:laidMet Tryz.prog [("lazaretto/op.table",Rows.laid_lazaretto_op_table),("unicode/utf8.first",Rows.laid_unicode_utf8_first)] W:=laidMet.tail (laidMet.tail (laidMet.tail (laidMet.tail (laidMet.tail (laidMet.tail h)))));obtain ⟨ps,⟨g,t,cs,fuel,p,q,hg,ht,hv,hd,_,_⟩,_⟩:=h7;obtain rfl:=ak (Tb.symm.trans hg);obtain rfl:=ak (KT.symm.trans ht);rw [KE] at hd;obtain ⟨xs,m,rfl,hx,hl,hxl,hel⟩:=DataW.trod_array Tryz.underlying276 hd;rw [yR] at hel;rw [HO] at hl;simp only [dy,DataW.agg.injEq] at hx;have hlt:0<W.heap.size:=by
  unfold World.var? at hv;rw [Tb] at hv;rcases ck 0 W.heap.size with h' | h'
  ·exact h'
  ·simp [kA h'] at hv
 have key:∀(j:Nat) (x:D),g_.flatten[j]? = some x→∃v,cs[j]? = some v∧br (all W) W v x:=by
  intro j x hj;rw [Lt _ Je] at hj
  by_cases hi:j / 4<47
  ·obtain ⟨s,a,b,c,hs⟩:=F0 _ hi;have h1:=hel _ hi;have h2:(xs.map (·.1))[j / 4]? = some (.agg [.lit (.string s),.lit (.int .u8 a),.lit (.int .u8 b),.lit (.int .u8 c)]):=by
    rw [←hx.1,aC,hs];rfl
   rw [aC] at h2;cases hy:xs[j / 4]? with
   |none=>rw [hy] at h2;cases h2
   |some y=>
    rw [hy] at h2 h1;obtain ⟨y1,y2⟩:=y;simp only [bK,aF] at h2;subst h2;obtain ⟨_,hk⟩:=Mi (all W) h1;rw [hs] at hj;obtain ⟨v,hv1,hv2⟩:=hk (j % 4) x (by simpa using hj);refine ⟨v,?_,hv2⟩;rw [List.getElem?_take_of_lt (Nat.mod_lt _ (by decide)),ao,G5] at hv1;rw [←bO];exact hv1
  ·exact Jn NH hi hj
 intro g row hrow;have hg0:g=0∧row=g_.flatten:=by
  unfold Rk at hrow;exact QH hrow
 obtain ⟨rfl,rfl⟩:=hg0;refine ⟨hlt,λj=>cs.getD j undef,λj x hj=>?_,λj x hj=>?_⟩
 ·obtain ⟨v,h1,_⟩:=key j x hj;rw [World.var?_cell Tb hv,b8,h1];simp [h1]
 ·obtain ⟨v,h1,h2⟩:=key j x hj;simp only [aE,h1];exact h2
theorem Rg {l:List (String×DataW Unit)} (e:(l.filter λx=>x.2.handleName?.isSome) = []) {W:World} (h:laidMetH Tryz.prog l W):laidMet Tryz.prog l W:=by
 unfold laidMetH at h;rw [e] at h;exact h
theorem zr:(Rows.sysThrowsRow.laid.filter λx=>x.2.handleName?.isSome) = []:=by kernel_rfl
theorem sZ {W:World} (h:laidMetH Tryz.prog Rows.sysThrowsRow.laid W):P1 (all W) W:=Nj (Rg zr h)
noncomputable def xr (os:Os):World:=World.laidAll Tryz.prog os Rows.sysThrowsRow.laid
theorem Fy (os:Os):(xr os).os=os:=World.laidAll_os _ _ _
theorem DW (os:Os) (args:Array Value):laidMet Tryz.prog Rows.sysThrowsRow.laid ((xr os).forCall (λ_ _=>0) ⟨#[],args,[]⟩).memory:=
 laidMet_laidAll args (by kernel_rfl) (by kernel_rfl)
theorem AJ (os:Os) (args:Array Value):(((xr os).forCall (λ_ _=>0) ⟨#[],args,[]⟩).heap.toList.drop Tryz.checked.prog.globals.size).take ((begin Tryz.checked.prog (λ_ _=>0) default).world.heap.size - Tryz.checked.prog.globals.size) =
 (begin Tryz.checked.prog (λ_ _=>0) default).world.heap.toList.drop Tryz.checked.prog.globals.size:=by kernel_rfl
end Go.Proofs.YtjpgfgajkjhonaaGreatDoor
namespace Go.Proofs.YtjpgfgajkjhonaaGreatDoor
open Go.Vx
set_option maxRecDepth 100000
open Go.ChangeShapes Go.WideShapes Go.ChangeAt Go.RowKit
abbrev Sv:Go.Vx.Ty:=.pr .str (.pr .str .un)
abbrev SY:Go.Vx.Ty:=.pr (.int .i64) (.pr (.int .i64) (.pr .str (.pr Sv .un)))
abbrev Su:Go.Vx.Ty:=.pr .str (.pr .bool (.pr SY .un))
abbrev Ut:Go.Vx.Ty:=.pr .bool (.pr SY (.pr (.sl Su) .un))
abbrev UU:Go.Vx.Ty:=.pr (.int .i64) (.pr Sv (.pr SY (.pr .bool (.pr .bool (.pr Ut (.pr (.int .i64) (.pr (.int .u8) .un)))))))
abbrev QC:Go.Vx.Ty:=.pr (.int .u8) (.pr UU .un)
abbrev UT:Go.Vx.Ty:=.pr (.int .u8) (.pr (.int .u8) (.pr (.int .u8) (.pr (.int .u8) (.pr (.int .u8) (.pr (.int .u8) .un)))))
theorem P_:vJ Tryz.prog 9 22=some (.sl (.sl (.int .u8))):=by kernel_rfl
theorem QA:vJ Tryz.prog 9 23=some (.sl QC):=by kernel_rfl
theorem QB:vJ Tryz.prog 9 25=some UT:=by kernel_rfl
theorem vU {N:Nat} {xs:List D} (h:lz N (.int .u8) xs):∃n:Int,(0≤n∧n≤255)∧xs = [D.int .u8 n]:=by
 obtain ⟨n,rfl,hn⟩:=o6 h;exact ⟨n,⟨by unfold eW at hn;omega,by unfold eW at hn;omega⟩,rfl⟩
theorem xU:∀(rows:List (List D)),(∀row∈rows,∃n:Int,(0≤n∧n≤255)∧row = [D.int .u8 n])→∃l,rows=dz l∧oQ l
 |[],_=>⟨[],rfl,λ_ h=>by cases h⟩
 |r :: rs,h=>by
  obtain ⟨n,hn,rfl⟩:=h r (by simp);obtain ⟨l,rfl,hl⟩:=xU rs (λy hy=>h y (by simp [hy]));exact ⟨n :: l,rfl,λx hx=>by
   rcases ae.1 hx with rfl | hx
   ·exact hn
   ·exact hl x hx⟩
theorem uW {N:Nat}:∀(rows:List (List D)),(∀row∈rows,lz N (.sl (.int .u8)) row)→∃L:List (List Int),rows=(L.map λl=>[D.sl 1 (dz l)])∧∀l∈L,oQ l
 |[],_=>⟨[],rfl,λ_ h=>by cases h⟩
 |r :: rs,h=>by
  obtain ⟨q,rfl,_,hq⟩:=vT (h r (by simp));obtain ⟨l,rfl,hl⟩:=xU q λrow hrow=>vU (hq row hrow);obtain ⟨L,rfl,hL⟩:=uW rs (λy hy=>h y (by simp [hy]));exact ⟨l :: L,rfl,λx hx=>by
   rcases ae.1 hx with rfl | hx
   ·exact hl
   ·exact hL x hx⟩
theorem M9 {N:Nat} {rows:List (List D)} (h:lz N (.sl (.sl (.int .u8))) [.sl (Go.Vx.Ty.sl (.int .u8)).n rows]):∃L:List (List Int),rows=(L.map λl=>[D.sl 1 (dz l)])∧∀l∈L,oQ l:=by
 obtain ⟨_,he,_,hr⟩:=vT h;cases he;exact uW rows hr
section
variable {xs:List D}
theorem QO (h:lz 1048576 Sv xs):∃l:Lb,xs = [.str l.s,.str l.i]∧cO l:=by
 obtain ⟨_,_,rfl,h1,g1⟩:=dk h;obtain ⟨s,rfl,l1⟩:=q_ h1;obtain ⟨_,_,rfl,h2,g2⟩:=dk g1;obtain ⟨i,rfl,l2⟩:=q_ h2;cases oB g2;exact ⟨⟨s,i⟩,rfl,And.intro (aY l1 (by decide)) (aY l2 (by decide))⟩
theorem M8 (h:lz 1048576 SY xs):∃v:Va,xs=cE v∧cO (bD v):=by
 obtain ⟨_,_,rfl,h1,g1⟩:=dk h;obtain ⟨k,rfl,_⟩:=o6 h1;obtain ⟨_,_,rfl,h2,g2⟩:=dk g1;obtain ⟨n,rfl,_⟩:=o6 h2;obtain ⟨_,_,rfl,h3,g3⟩:=dk g2;obtain ⟨nm,rfl,_⟩:=q_ h3;obtain ⟨_,_,rfl,h4,g4⟩:=dk g3;obtain ⟨l,rfl,hl⟩:=QO h4;cases oB g4;exact ⟨⟨k,n,nm,l.s,l.i⟩,rfl,hl⟩
theorem TE (h:lz 1048576 Su xs):∃w:Wt,xs=eL w∧cO (bD w.v):=by
 obtain ⟨_,_,rfl,h1,g1⟩:=dk h;obtain ⟨i,rfl,_⟩:=q_ h1;obtain ⟨_,_,rfl,h2,g2⟩:=dk g1;obtain ⟨b,rfl⟩:=o7 h2;obtain ⟨_,_,rfl,h3,g3⟩:=dk g2;obtain ⟨v,rfl,hv⟩:=M8 h3;cases oB g3;exact ⟨⟨i,b,v⟩,rfl,hv⟩
theorem LW:∀(rows:List (List D)),(∀row∈rows,lz 1048576 Su row)→∃q:List Wt,rows=q.map eL∧∀w∈q,cO (bD w.v)
 |[],_=>⟨[],rfl,λ_ h=>by cases h⟩
 |r :: rs,h=>by
  obtain ⟨w,rfl,hw⟩:=TE (h r (by simp));obtain ⟨q,rfl,hq⟩:=LW rs (λy hy=>h y (by simp [hy]));exact ⟨w :: q,rfl,λx hx=>by
   rcases ae.1 hx with rfl | hx
   ·exact hw
   ·exact hq x hx⟩
theorem TG (h:lz 1048576 UU xs):∃o:Ob,xs=fF o∧kE 255 1048576 o:=by
 obtain ⟨_,_,rfl,h1,g1⟩:=dk h;obtain ⟨k,rfl,_⟩:=o6 h1;obtain ⟨_,_,rfl,h2,g2⟩:=dk g1;obtain ⟨l,rfl,hl⟩:=QO h2;obtain ⟨_,_,rfl,h3,g3⟩:=dk g2;obtain ⟨v,rfl,hv⟩:=M8 h3;obtain ⟨_,_,rfl,h4,g4⟩:=dk g3;obtain ⟨ex,rfl⟩:=o7 h4;obtain ⟨_,_,rfl,h5,g5⟩:=dk g4;obtain ⟨dn,rfl⟩:=o7 h5;obtain ⟨_,_,rfl,h6,g6⟩:=dk g5;obtain ⟨_,_,rfl,a1,b1⟩:=dk h6;obtain ⟨full,rfl⟩:=o7 a1;obtain ⟨_,_,rfl,a2,b2⟩:=dk b1;obtain ⟨u,rfl,hu⟩:=M8 a2;obtain ⟨_,_,rfl,a3,b3⟩:=dk b2;obtain ⟨rows,rfl,hn,hr⟩:=vT a3;obtain ⟨q,rfl,hq⟩:=LW rows hr;cases oB b3;obtain ⟨_,_,rfl,h7,g7⟩:=dk g6;obtain ⟨fu,rfl,_⟩:=o6 h7;obtain ⟨_,_,rfl,h8,g8⟩:=dk g7;obtain ⟨ma,hm,rfl⟩:=vU h8;cases oB g8;exact ⟨⟨k,l,v,ex,dn,⟨full,u,q⟩,fu,ma⟩,rfl,⟨hl,hv,hu,hq,by rw [aK] at hn;exact hn,hm⟩⟩
theorem TH (h:lz 1048576 QC xs):∃p:Int×Ob,xs=jI p∧u4 255 1048576 p:=by
 obtain ⟨_,_,rfl,h1,g1⟩:=dk h;obtain ⟨i,hi,rfl⟩:=vU h1;obtain ⟨_,_,rfl,h2,g2⟩:=dk g1;obtain ⟨o,rfl,ho⟩:=TG h2;cases oB g2;exact ⟨(i,o),by show [D.int .u8 i]++(fF o ++ [])=_;rw [cQ];rfl,⟨hi,ho⟩⟩
theorem xV:∀(rows:List (List D)),(∀row∈rows,lz 1048576 QC row)→∃l:List (Int×Ob),rows=l.map jI∧∀p∈l,u4 255 1048576 p
 |[],_=>⟨[],rfl,λ_ h=>by cases h⟩
 |r :: rs,h=>by
  obtain ⟨w,rfl,hw⟩:=TH (h r (by simp));obtain ⟨q,rfl,hq⟩:=xV rs (λy hy=>h y (by simp [hy]));exact ⟨w :: q,rfl,λx hx=>by
   rcases ae.1 hx with rfl | hx
   ·exact hw
   ·exact hq x hx⟩
theorem QP {rows:List (List D)} (h:lz 1048576 (.sl QC) [.sl QC.n rows]):∃l:List (Int×Ob),rows=l.map jI∧(∀p∈l,u4 255 1048576 p)∧l.length≤1048576:=by
 obtain ⟨_,he,hn,hr⟩:=vT h;cases he;obtain ⟨l,rfl,hl⟩:=xV rows hr;exact ⟨l,rfl,hl,by rw [aK] at hn;exact hn⟩
theorem TF (h:lz 1048576 UT xs):∃x:H6,xs.map V.d=pX x∧xc x:=by
 obtain ⟨_,_,rfl,h1,g1⟩:=dk h;obtain ⟨a,ha,rfl⟩:=vU h1;obtain ⟨_,_,rfl,h2,g2⟩:=dk g1;obtain ⟨b,hb,rfl⟩:=vU h2;obtain ⟨_,_,rfl,h3,g3⟩:=dk g2;obtain ⟨c,hc,rfl⟩:=vU h3;obtain ⟨_,_,rfl,h4,g4⟩:=dk g3;obtain ⟨d,hd,rfl⟩:=vU h4;obtain ⟨_,_,rfl,h5,g5⟩:=dk g4;obtain ⟨e,he,rfl⟩:=vU h5;obtain ⟨_,_,rfl,h6,g6⟩:=dk g5;obtain ⟨f,hf,rfl⟩:=vU h6;cases oB g6;exact ⟨⟨a,b,c,d,e,f⟩,rfl,⟨ha,hb,hc,hd,he,hf⟩⟩
end
theorem M7 {H:Type} {l:List (DataW H)} (hk:Rows.uptoSmall H l=true):Rows.uptoBulkAll l≤1048576:=of_decide_eq_true hk
end Go.Proofs.YtjpgfgajkjhonaaGreatDoor
namespace Go.Proofs.YtjpgfgajkjhonaaGreatDoor
open Go.Vx
set_option maxRecDepth 100000
structure Jj (im:Im) (t:Th) (s:bq) (now:Int):Prop where
  st:St im t.c (bQ t).fr (bQ t).tr (du im t.c (bQ t).fr (bQ t).tr)
  lf:t.c.fr.length<900000000
  ls:t.c.st.length<800000000
  q:vS s t.id
  ask:(du im t.c (bQ t).fr (bQ t).tr).2.k=3→∃o f i F,du im t.c (bQ t).fr (bQ t).tr=(t.c,⟨3,zeroV,o⟩)∧t.c.fr.getLast? = some f∧inf o.c=some i∧fB t.c i.po=true∧(0≤f.pc∧f.pc<1000000000)∧CW o.c F∧Nat.blt F 5000000=true ∧
    (∀{K:Out→H→Prop},(EJ (iu (lI im t now) o f i.po) s).K K→Sat Tryz.prog F [.p 0 0] (eN (iu (lI im t now) o f i.po) s) K)∧∀n c' s',EJ (iu (lI im t now) o f i.po) s = .ex n c' s'→vS s' c'.t.id
set_option maxHeartbeats 4000000 in
theorem Nv {K : Out → H → Prop} (im : Im) (t : Th) (s : bq) (now : Int) (h : t.st = 0 → Jj im t s now) (hk : ∀ b, K (.ret (.tu [eu (Dj im t s now b).t, qp ((Dj im t s now b).e.ef (Dj im t s now b).d)])) (kH (Dj im t s now b).s)) :
    Sat Tryz.prog 34 [wb im,eu t,.p 0 0,.d (.int .i64 now)] (kH s) K:=by
  unfold Dj at hk
  by_cases h0:t.st=0
  · have hz:(t.st != 0)=false:=by simp [h0]
    rw [hz] at hk
    have hd:=h h0
    have h1:=wK t
    have h2:=hd.st
    have hq:=hd.q
    have hask:=hd.ask
    unfold St at h2
    generalize hr:du im t.c (bQ t).fr (bQ t).tr=r at h2 hk hask
    obtain ⟨k,u⟩:=r
    by_cases k1:u.k=1
    · rw [show (u.k==1)=true by simp [k1]] at hk
      have h3:=λ{K:Out→H→Prop}=>nP (K:=K) (qN (lI im t now) k) s u.v false hq
      refine s34.go (keep:=false) rfl ?_
      repeat' ((conv=>whnf);first | exact zf | refine zm ?_ | refine zc h1 ?_ | refine zc h2 ?_ | refine (.inr ?_:(∃_,_)∨_) | refine (h3 ?_) | refine zt ?_ | refine zu ?_ | intro _)
      exact hk none
    · by_cases k2:u.k=2
      · rw [show (u.k==1)=false by simp [k1],show (u.k==2)=true by simp [k2]] at hk
        have h3:=λ{K:Out→H→Prop}=>nP (K:=K) (qN (lI im t now) k) s u.v true hq
        refine s34.go (keep:=false) rfl ?_
        repeat' ((conv=>whnf);first | exact zf | refine zm ?_ | refine zc h1 ?_ | refine zc h2 ?_ | refine (.inr ?_:(∃_,_)∨_) | refine (h3 ?_) | refine zt ?_ | refine zu ?_ | intro _)
        exact hk none
      · by_cases k3:u.k=3
        · rw [show (u.k == 1) = false by simp [k1], show (u.k == 2) = false by simp [k2], show (u.k == 3) = true by simp [k3]] at hk
          obtain ⟨o,f,i,F,e,hf,hi,hp,hpc,hF,hlt,hR,hx⟩:=hask k3
          cases e
          have h3:=λ{K:Out→H→Prop}=>MC (K:=K) (lI im t now) s o f i F _ hi hf hd.lf hd.ls hp hpc hF hlt hR hx
          replace hk:∀b,K (.ret (.tu [eu ((EJ (iu (lI im t now) o f i.po) s).fin t.c b).t,qp (((EJ (iu (lI im t now) o f i.po) s).fin t.c b).e.ef ((EJ (iu (lI im t now) o f i.po) s).fin t.c b).d)])) (kH ((EJ (iu (lI im t now) o f i.po) s).fin t.c b).s):=λb=>by
            have:=hk b
            unfold SH at this
            rw [show (lI im t now).t.c.fr.getLast? = some f from hf,hi] at this
            exact this
          generalize EJ (iu (lI im t now) o f i.po) s=R at h3 hk
          cases R with
          |ok e g=>
            cases e
            all_goals
              refine s34.go (keep:=false) rfl ?_
              repeat' ((conv=>whnf);first | exact zf | refine zm ?_ | refine zc h1 ?_ | refine zc h2 ?_ | refine (.inr ?_:(∃_,_)∨_) | refine (h3 (λb=>?_)) | refine zt ?_ | refine zu ?_ | intro _)
              exact hk _
          |ex n c' s'=>
            have h4:=λ{K:Out→H→Prop} (g:K (.ret (.tu [])) (SA (kW c' s' t.c n)))=>h3 (K:=K) g
            refine s34.go (keep:=false) rfl ?_
            repeat' ((conv=>whnf);first | exact zf | refine zm ?_ | refine zc h1 ?_ | refine zc h2 ?_ | refine (.inr ?_:(∃_,_)∨_) | refine (h4 ?_) | refine zt ?_ | refine zu ?_ | intro _)
            exact hk none
        · rw [show (u.k==1)=false by simp [k1],show (u.k==2)=false by simp [k2],show (u.k==3)=false by simp [k3]] at hk
          refine s34.go (keep:=false) rfl ?_
          repeat' ((conv=>whnf);first | exact zf | refine zm ?_ | refine zc h1 ?_ | refine zc h2 ?_ | refine zt ?_ | refine zu ?_ | intro _)
          exact hk none
  · have hz:(t.st != 0)=true:=by simp [h0]
    rw [hz] at hk
    refine s34.go (keep:=false) rfl ?_
    repeat' ((conv=>whnf);first | exact zf | refine zm ?_ | refine zt ?_ | refine zu ?_ | intro _)
    exact hk none
section
variable {im:Im} {c:Co} {fr tr:Int}
def K3 (k:Int):Bool:=(k==1)||((k==2)||((k==18)||((k==27)||((k==29)||((k==30)||((k==32)||((k==35)||(k==41))))))))
theorem BJ (h:Pj im c) {o:Op} (hf:fit im c=some o) (hs:K3 o.c=true):St im c fr tr (du im c fr tr):=by
 unfold du;rw [hf];obtain ⟨f,fn,hl,w1,hfn,w2,ho,hr,hop,hpo⟩:=mg hf;simp only [hl];obtain ⟨a1,a2⟩:=within_iff.1 w2;have:=h.cd _ _ hfn;have x:Cx im c fr tr o f fn:=⟨h.hI,hf,hl,⟨a1,by omega⟩,hop,hpo,h.lf,h.ls,h.lt⟩
 obtain ⟨k,oa⟩:=o;simp only [K3,cJ,beq_iff_eq] at hs;rcases hs with rfl | rfl | rfl | rfl | rfl | rfl | rfl | rfl | rfl
 ·exact U5 x
 ·exact U4 x
 ·exact RS x
 all_goals exact tv x (λ_=>rfl)
end
end Go.Proofs.YtjpgfgajkjhonaaGreatDoor
namespace Go.Proofs.YtjpgfgajkjhonaaGreatDoor
open Go.Vx
set_option maxRecDepth 100000
def eS:bq:=⟨[],[]⟩
abbrev SS:=Option Nat→Th×bq
def RY (k:Int) (m:Lb) (v:Va):Ob:={ fO with k:=k,l:=m,v:=v }
theorem uc {key:List UInt8}:∀{l:List (List UInt8×Ob)} {i:Nat} {o:Ob},cD key l=some (i,o)→∃p∈l,p.2=o
 |[],_,_,h=>nomatch h
 |p :: r,i,o,h=>by
  unfold cD at h
  by_cases hb:key=p.1
  ·rw [if_pos hb] at h;cases h;exact ⟨p,bZ ..,rfl⟩
  ·rw [if_neg hb] at h;cases hr:cD key r with
   |none=>rw [hr] at h;cases h
   |some q=>
    rw [hr] at h;obtain ⟨p',hp,he⟩:=uc (i:=q.1) (o:=q.2) (by rw [hr]);cases h;exact ⟨p',cM _ hp,he⟩
theorem n_ {s:bq} {nm:List UInt8} (h:∀p∈s.th,p.2.va.q.length<100000000):vS s nm:=λi o ho=>by
 obtain ⟨p,hp,he⟩:=uc ho;rw [←he];exact h p hp
theorem Uv (a b:Lb):cO (dR a b):=⟨ft _,ft _⟩
theorem QD:cr [3] = [51]:=by kernel_rfl
theorem xl {c c':Ca} {s s':bq} {o:Ob} {n:Int} (h:qW c s o = .ex n c' s'):s'=s:=by
 unfold qW at h;cases hw:bS c.t.g o.l==0<;>rw [hw] at h
 ·cases h;rfl
 ·cases hr:decide (c.t.ro<1)<;>rw [hr] at h<;>cases h;rfl
theorem Ch {c c':Ca} {s s':bq} {l:Lb} {n:Int} (h:mM c s l = .ex n c' s'):s'=s:=by
 unfold mM at h;cases hw:dN c.t.g l==0<;>rw [hw] at h<;>cases h;rfl
theorem B9 {k:Int} {c c':Ca} {s s':bq} {n:Int} (h:DO k c s = .ex n c' s'):s'=s:=by
 unfold DO at h;cases hw:bw [0,2] c.ar<;>rw [hw] at h
 ·cases h;rfl
 ·exact xl h
theorem Ff {c c':Ca} {s s':bq} {n:Int} (h:Fg c s = .ex n c' s'):s'=s:=by
 unfold Fg at h;cases hw:bw [2] c.ar<;>rw [hw] at h
 ·cases h;rfl
 ·exact xl h
theorem DC {c c':Ca} {s s':bq} {n:Int} (h:oE c s = .ex n c' s'):s'=s:=by
 unfold oE at h;cases hw:bw [2] c.ar<;>rw [hw] at h
 ·cases h;rfl
 ·exact Ch h
theorem Ja {c c':Ca} {s s':bq} {n:Int} (h:ze c s = .ex n c' s'):s'=s:=by
 unfold ze at h;cases hw:bw [0,2] c.ar<;>rw [hw] at h
 ·cases h;rfl
 ·cases hg:bS c.t.g (bD (c.ar[1]?.getD dT))==0<;>rw [hg] at h<;>cases h;rfl
theorem FZ {c c':Ca} {s s':bq} {n:Int} (h:sB c s = .ex n c' s'):s'=s:=by
  unfold sB at h
  cases hw:bw [3] c.ar<;>rw [hw] at h
  · cases h;rfl
  · rw [cond_true] at h
    unfold o_ at h
    cases ht:dN c.t.g (bD (c.ar[0]?.getD dT))==0<;>rw [ht] at h
    · cases h;rfl
    · rw [cond_true] at h
      split at h
      · unfold ll at h
        rename_i p o hp
        cases ho:o.ex<;>rw [ho] at h<;>cases h
        rfl
      · cases h
theorem zh {c c':Ca} {s s':bq} {n:Int} (h:EJ c s = .ex n c' s'):s'=s:=by
 unfold EJ at h;cases h1:c.o.c==27<;>rw [h1] at h
 ·cases h2:c.o.c==29<;>rw [h2] at h
  ·cases h3:c.o.c==30<;>rw [h3] at h
   ·cases h4:c.o.c==32<;>rw [h4] at h
    ·cases h5:c.o.c==35<;>rw [h5] at h
     ·cases h6:c.o.c==41<;>rw [h6] at h
      ·cases h;rfl
      ·exact Ja h
     ·exact Ff h
    ·exact B9 h
   ·exact FZ h
  ·exact B9 h
 ·exact DC h
end Go.Proofs.YtjpgfgajkjhonaaGreatDoor
namespace Go.Proofs.YtjpgfgajkjhonaaGreatDoor
open Go.Vx
set_option maxRecDepth 100000
theorem B8 {p:List UInt8×Ob} (h:p∈eS.th):p.2.va.q.length<100000000:=nomatch h
theorem pC (n:Int):bJ Tryz.prog 21 [.d (.int .i64 n)] (j5 (num n)):=by
 refine s21.go (keep:=false) rfl ?_
 repeat' ((conv=>whnf);first | exact zf | refine zm ?_ | intro _)
theorem Ng:bJ Tryz.prog 30 [] (jU ⟨[0],[]⟩):=by
 refine s30.go (keep:=false) rfl ?_
 repeat' ((conv=>whnf);first | exact zf | refine zm ?_ | intro _)
end Go.Proofs.YtjpgfgajkjhonaaGreatDoor
namespace Go.Proofs.YtjpgfgajkjhonaaGreatDoor
open Go.Vx
set_option maxRecDepth 100000
def CJ (c:Ca) (e:List V) (a:V) (s:Nat):List V:=
 [.nl 5,.nl 3,.p s 0,.d (.int .i64 c.now)]++(gX c.t).map .d ++ [.d (.int .i64 c.tr)]++e ++ [.d (.int .i64 c.o.c),.d (.int .i64 c.o.a),a,.d (.int .u8 c.ma)]
def Ui (c:Ca) (s:bq):H:=.cells (CJ c [.nl 20,.nl 7,.nl 6,.nl 2,.d (.bool false)] (.nl 5) 1) :: [.cells [.mp 2,.mp 3],.dm (qw s.th),.ms 1 (qT s.nm) none none]
def Uh (p:Ca×Bool×bq):H:=.cells (CJ p.1 [.nl 20,.nl 7,.nl 6,.nl 2,.d (.bool p.2.1)] (.nl 5) 1) :: [.cells [.mp 2,.mp 3],.dm (qw p.2.2.th),.ms 1 (qT p.2.2.nm) none none]
theorem Dg {K:Out→H→Prop} (c:Ca) (s:bq) (v:Va) (ex:Bool) (hqa:∀i o,cD c.t.id s.th=some (i,o)→o.va.q.length<100000000) (hk:K (.ret (.tu [])) (Uh (nZ c s v ex))):Sat Tryz.prog 72 [.p 0 0,j5 v,.d (.bool ex)] (Ui c s) K:=by
 have h1:=qA c.t v ex;have hid:(eX c.t v ex).id=c.t.id:=rfl;unfold nZ at hk;generalize eX c.t v ex=t at h1 hid hk;rw [←hid] at hqa;have hq:(iR s t.id).va.q.length<100000000:=by
  unfold iR;cases hlk:cD t.id s.th with
  |none=>simp [fO,zw]
  |some p=>exact hqa p.1 p.2 hlk
 by_cases h30:t.st=3
 ·have hnot:¬(t.st≠3∧t.st≠4):=λh=>h.1 h30;simp only [hnot,if_false] at hk;have hg:=qZ (K:=λout h=>out = .ret (.tu [gH (iR s t.id),.d (.bool (mA s t.id))])∧h=kH s) s t.id hq ⟨rfl,rfl⟩;unfold iR mA at hg;cases hlk:cD t.id s.th with
  |none=>
   rw [hlk] at hg hk;refine s72.go (keep:=false) rfl ?_
   repeat' ((conv=>whnf);first | exact zf | refine (bo (bu ?_):eQ _ (eQ (kT _ _ _ _ 16 _ _ _ _ _ _ _) _)) | refine zm ?_ | refine zc h1 ?_ | refine ⟨_,_,hg,?_⟩ | refine zt ?_ | refine zu ?_ | intro _)
   exact hk
  |some p=>
   obtain ⟨i,o⟩:=p;rw [hlk] at hg hk
   by_cases h6:o.k=6
   ·have hset:=λ{K:Out→H→Prop}=>lN (K:=K) s t.id i { o with v:=v,ex:=ex,dn:=true } o hlk rfl rfl (hqa i o hlk);dsimp only at hk;rw [if_pos h6] at hk;refine s72.go (keep:=false) rfl ?_
    repeat' ((conv=>whnf);first | exact zf | refine (bo (bu ?_):eQ _ (eQ (kT _ _ _ _ 16 _ _ _ _ _ _ _) _)) | refine zm ?_ | refine zc h1 ?_ | refine ⟨_,_,hg,?_⟩ | refine (.inr ?_:(∃_,_)∨_) | refine (hset ?_) | refine zt ?_ | refine zu ?_ | intro _)
    exact hk
   ·simp only [h6,if_false] at hk;refine s72.go (keep:=false) rfl ?_
    repeat' ((conv=>whnf);first | exact zf | refine (bo (bu ?_):eQ _ (eQ (kT _ _ _ _ 16 _ _ _ _ _ _ _) _)) | refine zm ?_ | refine zc h1 ?_ | refine ⟨_,_,hg,?_⟩ | refine zt ?_ | refine zu ?_ | intro _)
    exact hk
 ·by_cases h3:t.st=4
  ·have hnot:¬(t.st≠3∧t.st≠4):=λh=>h.2 h3;simp only [hnot,if_false] at hk;have hg:=qZ (K:=λout h=>out = .ret (.tu [gH (iR s t.id),.d (.bool (mA s t.id))])∧h=kH s) s t.id hq ⟨rfl,rfl⟩;unfold iR mA at hg;cases hlk:cD t.id s.th with
   |none=>
    rw [hlk] at hg hk;refine s72.go (keep:=false) rfl ?_
    repeat' ((conv=>whnf);first | exact zf | refine (bo (bu ?_):eQ _ (eQ (kT _ _ _ _ 16 _ _ _ _ _ _ _) _)) | refine zm ?_ | refine zc h1 ?_ | refine ⟨_,_,hg,?_⟩ | refine zt ?_ | refine zu ?_ | intro _)
    exact hk
   |some p=>
    obtain ⟨i,o⟩:=p;rw [hlk] at hg hk
    by_cases h6:o.k=6
    ·have hset:=λ{K:Out→H→Prop}=>lN (K:=K) s t.id i { o with v:=v,ex:=ex,dn:=true } o hlk rfl rfl (hqa i o hlk);dsimp only at hk;rw [if_pos h6] at hk;refine s72.go (keep:=false) rfl ?_
     repeat' ((conv=>whnf);first | exact zf | refine (bo (bu ?_):eQ _ (eQ (kT _ _ _ _ 16 _ _ _ _ _ _ _) _)) | refine zm ?_ | refine zc h1 ?_ | refine ⟨_,_,hg,?_⟩ | refine (.inr ?_:(∃_,_)∨_) | refine (hset ?_) | refine zt ?_ | refine zu ?_ | intro _)
     exact hk
    ·simp only [h6,if_false] at hk;refine s72.go (keep:=false) rfl ?_
     repeat' ((conv=>whnf);first | exact zf | refine (bo (bu ?_):eQ _ (eQ (kT _ _ _ _ 16 _ _ _ _ _ _ _) _)) | refine zm ?_ | refine zc h1 ?_ | refine ⟨_,_,hg,?_⟩ | refine zt ?_ | refine zu ?_ | intro _)
     exact hk
  ·have hyes:t.st≠3∧t.st≠4:=⟨h30,h3⟩
   rw [if_pos hyes] at hk;refine s72.go (keep:=false) rfl ?_
   repeat' ((conv=>whnf);first | exact zf | refine zm ?_ | refine zc h1 ?_ | refine zt ?_ | refine zu ?_ | intro _)
   exact hk
theorem FL {K:Out→H→Prop} (c:Ca) (s:bq) (k:Co) (code:Int) (hf:k.fr.length<1000000000) (hst:k.st.length<1000000000) (hqa:∀i o,cD c.t.id s.th=some (i,o)→o.va.q.length<100000000) (hk:K (.ret (.tu [])) (Uh (kW c s k code))) :
  Sat Tryz.prog 75 [.p 0 0,gT k,.d (.int .i64 code)] (Ui c s) K:=by
 have h1:=rB k code c.tr hf hst;unfold kW at hk;generalize raise k code c.tr=r at h1 hk;have h2:=λ{K:Out→H→Prop}=>Dg (K:=K) { c with t:={ c.t with c:=r.1 } } s r.2.v true hqa;cases hb:r.2.k==2 with
 |true=>
  simp only [hb,cond_true] at hk;refine s75.go (keep:=false) rfl ?_
  repeat' ((conv=>whnf);first | exact zf | refine zm ?_ | refine zc h1 ?_ | refine (.inr ?_:(∃_,_)∨_) | refine (h2 ?_) | refine zt ?_ | refine zu ?_ | intro _)
  exact hk
 |false=>
  simp only [hb,cond_false] at hk;refine s75.go (keep:=false) rfl ?_
  repeat' ((conv=>whnf);first | exact zf | refine zm ?_ | refine zc h1 ?_ | refine zt ?_ | refine zu ?_ | intro _)
  exact hk
def Cz (t:Th) (s:bq) (n:Int):Rs:=Hc (kW (lI ⟨[],[]⟩ (uM t []) 0) s (uM t []).c n)
set_option maxHeartbeats 4000000 in
theorem FD {K:Out→H→Prop} (t:Th) (s:bq) (v:Va) (hf:t.c.fr.length<1000000000) (hst:t.c.st.length<1000000000) (hq:vS s t.id) (hk:K (.ret (.tu [eu (Cz t s v.n).t,qp ((Cz t s v.n).e.ef (Cz t s v.n).d)])) (kH (Cz t s v.n).s)) :
  Sat Tryz.prog 36 [eu t,.p 0 0,j5 v,.d (.bool true)] (kH s) K:=by
 have h1:=wK t;have h2:=MR t [] (by decide) hst;have h3:=λ{K:Out→H→Prop}=>FL (K:=K) (lI ⟨[],[]⟩ (uM t []) 0) s (uM t []).c v.n hf (by show (t.c.st ++ []).length<_;rw [cQ];exact hst) hq;refine s36.go (keep:=false) rfl ?_
 repeat' ((conv=>whnf);first | exact zf | refine (dp (dp ?_)) | refine zm ?_ | refine zc h1 ?_ | refine zc h2 ?_ | refine (.inr ?_:(∃_,_)∨_) | refine (h3 ?_) | refine zt ?_ | refine zu ?_ | refine And.intro ?_ ?_ | intro _)
 all_goals exact hk
end Go.Proofs.YtjpgfgajkjhonaaGreatDoor
namespace Go.Proofs.YtjpgfgajkjhonaaGreatDoor
open Go.Vx
set_option maxRecDepth 100000
def a1:Lb:=⟨[1],[]⟩
def AW:Lb:=⟨[0],[]⟩
def Uf:List Op:=[⟨2,0⟩,⟨1,0⟩,⟨29,0⟩,⟨30,0⟩,⟨1,1⟩,⟨41,0⟩,⟨2,0⟩,⟨18,0⟩]
def pO:Im:=⟨[qV a1,qV n7],[⟨1,0,Uf⟩]⟩
def wR (pc:Int) (st:List Va):Co:=⟨[⟨0,pc,0,0,[num 5]⟩],st,[]⟩
def MY:Th:=xe [48] ⟨n7,AW⟩ (wR 0 []) 1
def tq (b:Option Nat):bq:=qq eS [0,0] (RY 3 a1 (num 5)) b
def T8:Va:=⟨3,0,cr [0,0],[1],[]⟩
def S9:Nat→SS
 |0=>λ_=>(MY,eS)
 |1=>λ_=>({ MY with c:=wR 1 [num 5] },eS)
 |2=>λ_=>({ MY with c:=wR 2 [num 5,qV a1] },eS)
 |3=>λb=>({ MY with c:=wR 3 [T8],ma:=1,ro:=0 },tq b)
 |4=>λb=>({ MY with c:=wR 4 [num 5],ma:=1,ro:=0,g:=⟨a1,AW⟩ },tq b)
 |_=>λb=>({ MY with c:=wR 5 [num 5,qV n7],ma:=1,ro:=0,g:=⟨a1,AW⟩ },tq b)
def u9 (b:Option Nat):Th×bq:=({ MY with c:=wR 5 [num 5,qV n7],ma:=1,ro:=0,g:=⟨a1,AW⟩,st:=4,v:=num (-3),ex:=true },tq b)
theorem do9_0 (now:Int) (b b':Option Nat):Dj pO (S9 0 b).1 (S9 0 b).2 now b'=⟨(S9 1 b).1,.no,false,(S9 1 b).2⟩:=by rfl
theorem do9_1 (now:Int) (b b':Option Nat):Dj pO (S9 1 b).1 (S9 1 b).2 now b'=⟨(S9 2 b).1,.no,false,(S9 2 b).2⟩:=by rfl
theorem do9_2 (now:Int) (b b':Option Nat):Dj pO (S9 2 b).1 (S9 2 b).2 now b'=⟨(S9 3 b').1,.no,false,(S9 3 b').2⟩:=by kernel_rfl
theorem do9_3 (now:Int) (b b':Option Nat):Dj pO (S9 3 b).1 (S9 3 b).2 now b'=⟨(S9 4 b).1,.no,false,(S9 4 b).2⟩:=by kernel_rfl
theorem do9_4 (now:Int) (b b':Option Nat):Dj pO (S9 4 b).1 (S9 4 b).2 now b'=⟨(S9 5 b).1,.no,false,(S9 5 b).2⟩:=by kernel_rfl
theorem do9_5 (now:Int) (b b':Option Nat):Dj pO (S9 5 b).1 (S9 5 b).2 now b'=⟨(u9 b).1,.no,true,(u9 b).2⟩:=by kernel_rfl
theorem do9_6 (now:Int) (b b':Option Nat):Dj pO (u9 b).1 (u9 b).2 now b'=⟨(u9 b).1,.no,false,(u9 b).2⟩:=by rfl
theorem TI (b:Option Nat):Cz ⟨[49],[],R1,c00,[],0,0,1,[48],dT,false⟩ (tq b) 3=⟨⟨[49],[],R1,c00,[],0,0,4,[],num 3,true⟩,.no,true,tq b⟩:=by kernel_rfl
theorem VK (i:Nat) (hi:i<5) (now:Int) (b b':Option Nat):∃b'',Dj pO (S9 i b).1 (S9 i b).2 now b'=⟨(S9 (i+1) b'').1,.no,false,(S9 (i+1) b'').2⟩:=by
 match i,hi with
 |0,_=>exact ⟨b,do9_0 now b b'⟩
 |1,_=>exact ⟨b,do9_1 now b b'⟩
 |2,_=>exact ⟨b',do9_2 now b b'⟩
 |3,_=>exact ⟨b,do9_3 now b b'⟩
 |4,_=>exact ⟨b,do9_4 now b b'⟩
theorem RT (pc:Int) (st:List Va) (hst:st.length≤3) (hsm:∀v∈st,cO (bD v)) (o:Op) (hfit:fit pO (wR pc st)=some o) (ho:o.c≠24∧o.c≠31):Pj pO (wR pc st) where
 hI:=⟨λi g hg=>by
  match i,hg with
  |0,hg=>cases hg;exact (show eW .i64 1 from ⟨by decide,by decide⟩)⟩
 cd:=λi g hg=>by
  match i,hg with
  |0,hg=>
   cases hg;exact (show Uf.length<1000000000 by decide)
 lf:=show 1<_ by decide
 ls:=by show st.length<_;omega
 lt:=show 0<_ by decide
 ma:=λf hf=>by cases hf;exact (show ((0:Int)≤0∧(0:Int)≤255)∧[num 5].length<1000000000 from ⟨⟨by decide,by decide⟩,by decide⟩)
 sm:=hsm
 dm:=λo' h'=>by rw [hfit] at h';cases h';exact ho
theorem NP (pc:Int) (st:List Va) (o:Op) {t:Th} {s:bq} {now:Int} (ht:t.c=wR pc st) (hsc:t.sc = []) (hst:st.length≤3) (hsm:∀v∈st,cO (bD v)) (hfit:fit pO (wR pc st)=some o) (ho:o.c≠24∧o.c≠31) (hfw:K3 o.c=true)
  (hr:(du pO (wR pc st) 0 0).2.k≠3) (hq:∀p∈s.th,p.2.va.q.length<100000000):Jj pO t s now:=by
 have e:bQ t=Fa:=by unfold bQ;rw [hsc];rfl
 refine ⟨by rw [ht];exact BJ (RT pc st hst hsm o hfit ho) hfit hfw,by rw [ht];exact (show 1<_ by decide),by rw [ht];show st.length<_;omega,n_ hq,λh=>?_⟩;rw [ht,e] at h;exact absurd h hr
theorem NQ (pc:Int) (st:List Va) (o:Op) {t:Th} {s:bq} {now:Int} (ht:t.c=wR pc st) (hst:st.length≤3) (hsm:∀v∈st,cO (bD v)) (hfit:fit pO (wR pc st)=some o) (ho:o.c≠24∧o.c≠31) (hfw:K3 o.c=true)
  (hq:∀p∈s.th,p.2.va.q.length<100000000) (h:(du pO t.c (bQ t).fr (bQ t).tr).2.k=3→∃o f i F,du pO t.c (bQ t).fr (bQ t).tr=(t.c,⟨3,zeroV,o⟩)∧t.c.fr.getLast? = some f∧inf o.c=some i∧fB t.c i.po=true∧(0≤f.pc∧f.pc<1000000000)∧CW o.c F∧Nat.blt F 5000000=true ∧
  (∀{K:Out→H→Prop},(EJ (iu (lI pO t now) o f i.po) s).K K→Sat Tryz.prog F [.p 0 0] (eN (iu (lI pO t now) o f i.po) s) K)∧∀n c' s',EJ (iu (lI pO t now) o f i.po) s = .ex n c' s'→vS s' c'.t.id):Jj pO t s now:=
 ⟨by rw [ht];exact BJ (RT pc st hst hsm o hfit ho) hfit hfw,by rw [ht];exact (show 1<_ by decide),by rw [ht];show st.length<_;omega,n_ hq,h⟩
theorem S4:cO (bD (num 5)):=⟨show 0≤_ by decide,show 0≤_ by decide⟩
theorem QN:cO a1:=⟨show 1≤_ by decide,show 0≤_ by decide⟩
theorem S3:cO n7:=⟨show 0≤_ by decide,show 0≤_ by decide⟩
theorem TA:cO AW:=⟨show 1≤_ by decide,show 0≤_ by decide⟩
theorem zo {b:Option Nat}:∀p∈(tq b).th,p.2.va.q.length<100000000:=λp hp=>by
 rw [aP.1 hp];exact (show (0:Nat)<100000000 by decide)
theorem Sw:cr [0] = [48]:=by kernel_rfl
theorem VF (q:Ca) (h1:q.t.pa = [48]) (h2:q.t.ma=0) (h3:q.t.ro=1) (h4:q.t.g=⟨n7,AW⟩) (h5:q.t.c.st.length<1000000000):NN q eS (RY 3 a1 (num 5)):=by
 have hu:kD q.t.pa 0 = [0]:=by rw [h1];rfl
 refine ⟨⟨?_,?_,?_,?_,?_,?_,?_⟩,?_,QN,⟨by decide,λ_ h=>nomatch h⟩,by decide,by decide,by kernel_rfl,show (0:Nat)<_ by decide,rfl,h5⟩
 ·rw [hu,h1,Sw]
 ·rw [hu];decide
 ·rw [hu];decide
 ·rw [hu];decide
 ·rw [h2];decide
 ·rw [h2];decide
 ·rw [h3];decide
 ·rw [h4];exact ⟨S3,TA⟩
theorem m1 {v:Va} (h:cO (bD v)):∀x∈[v],cO (bD x):=λx hx=>by rw [aP.1 hx];exact h
theorem m2 {v w:Va} (h:cO (bD v)) (h':cO (bD w)):∀x∈[v,w],cO (bD x):=λx hx=>by
 simp only [ae,cU,or_false] at hx;rcases hx with rfl | rfl
 ·exact h
 ·exact h'
theorem U7 (i:Nat) (hi:i<6) (now:Int) (b:Option Nat):Jj pO (S9 i b).1 (S9 i b).2 now:=by
 match i,hi with
 |0,_=>exact NP 0 [] ⟨2,0⟩ rfl rfl (by decide) (λ_ h=>nomatch h) rfl ⟨by decide,by decide⟩ rfl (show (0:Int)≠3 by decide) λ_ h=>B8 h
 |1,_=>exact NP 1 [num 5] ⟨1,0⟩ rfl rfl (show 1≤3 by decide) (m1 S4) rfl ⟨by decide,by decide⟩ rfl (show (0:Int)≠3 by decide) λ_ h=>B8 h
 |2,_=>exact NQ 2 [num 5,qV a1] ⟨29,0⟩ rfl (show 2≤3 by decide) (m2 S4 QN) rfl ⟨by decide,by decide⟩ rfl (λ_ h=>B8 h) λ_=>⟨⟨29,0⟩,⟨0,2,0,0,[num 5]⟩,_,174,rfl,rfl,rfl,rfl,⟨by decide,by decide⟩,⟨_,rfl⟩,rfl,
  λh=>DP _ _ (num 5) (qV a1) rfl (VF _ rfl rfl rfl rfl (show 0<_ by decide)) h,λn c' s' h=>by rw [zh h];exact n_ λ_ h=>B8 h⟩
 |3,_=>exact NQ 3 [T8] ⟨30,0⟩ rfl (show 1≤3 by decide) (m1 QN) rfl ⟨by decide,by decide⟩ rfl zo λ_=>⟨⟨30,0⟩,⟨0,3,0,0,[num 5]⟩,_,175,rfl,rfl,rfl,rfl,⟨by decide,by decide⟩,⟨_,rfl⟩,rfl,
  λh=>B1 _ _ T8 rfl (show 0<_ by decide) ⟨S3,TA⟩ QN (Uv _ _) (n_ zo) h,λn c' s' h=>by rw [zh h];exact n_ zo⟩
 |4,_=>exact NP 4 [num 5] ⟨1,1⟩ rfl rfl (show 1≤3 by decide) (m1 S4) rfl ⟨by decide,by decide⟩ rfl (show (0:Int)≠3 by decide) zo
 |5,_=>exact NQ 5 [num 5,qV n7] ⟨41,0⟩ rfl (show 2≤3 by decide) (m2 S4 S3) rfl ⟨by decide,by decide⟩ rfl zo λ_=>⟨⟨41,0⟩,⟨0,5,0,0,[num 5]⟩,_,185,rfl,rfl,rfl,rfl,⟨by decide,by decide⟩,⟨_,rfl⟩,rfl,
  λh=>FX _ _ (num 5) (qV n7) rfl ⟨QN,TA⟩ S3 h,λn c' s' h=>by rw [zh h];exact n_ zo⟩
end Go.Proofs.YtjpgfgajkjhonaaGreatDoor
namespace Go.Proofs.YtjpgfgajkjhonaaGreatDoor
open Go.Vx
set_option maxRecDepth 100000
def VI (p:Th×bq):H:=
  [.cells [.d (.str [1]), .d (.str [])], .cells [.d (.sl 5 (pO.cs.map cE)), .d (.sl 3 (pO.fs.map db))], .cells [.d (.sl 5 ((wR 0 []).fr.map bR)), .d (.sl 5 ((wR 0 []).st.map cE)), .d (.sl 3 ((wR 0 []).tr.map eE))],
   .cells ((gX p.1).map .d),.cells [.mp 5,.mp 6],.dm (qw p.2.th),.ms 1 (qT p.2.nm) none none]
theorem do34_9 {K:Out→H→Prop} (i:Nat) (hi:i<5) (b:Option Nat) (hk:∀b'',K (.ret (.tu [eu (S9 (i+1) b'').1,qp (Fx.ef .no false)])) (kH (S9 (i+1) b'').2)):Sat Tryz.prog 34 [wb pO,eu (S9 i b).1,.p 0 0,.d (.int .i64 i)] (kH (S9 i b).2) K:=by
 refine Nv pO _ _ i (λ_=>U7 i (by omega) i b) λb'=>?_;obtain ⟨b'',e⟩:=VK i hi i b b';rw [e];exact hk b''
theorem do34_5 {K:Out→H→Prop} (b:Option Nat) (hk:K (.ret (.tu [eu (u9 b).1,qp (Fx.ef .no true)])) (kH (tq b))):Sat Tryz.prog 34 [wb pO,eu (S9 5 b).1,.p 0 0,.d (.int .i64 9)] (kH (tq b)) K:=by
 refine Nv pO (S9 5 b).1 (S9 5 b).2 9 (λ_=>U7 5 (by omega) 9 b) λb'=>?_;rw [do9_5];exact hk
theorem do34_6 {K:Out→H→Prop} (b:Option Nat) (hk:K (.ret (.tu [eu (u9 b).1,qp (Fx.ef .no false)])) (kH (tq b))):Sat Tryz.prog 34 [wb pO,eu (u9 b).1,.p 0 0,.d (.int .i64 9)] (kH (tq b)) K:=by
 refine Nv pO (u9 b).1 (u9 b).2 9 (λh=>absurd h (show ¬(4:Int)=0 by decide)) λb'=>?_;rw [do9_6];exact hk
def Sz:Th:=⟨[49],[],R1,c00,[],0,0,1,[48],dT,false⟩
theorem QW {K:Out→H→Prop} (b:Option Nat) (hk:K (.ret (.tu [eu ⟨[49],[],R1,c00,[],0,0,4,[],num 3,true⟩,qp (Fx.ef .no true)])) (kH (tq b))):Sat Tryz.prog 36 [eu Sz,.p 0 0,j5 (num 3),.d (.bool true)] (kH (tq b)) K:=by
 refine FD Sz (tq b) (num 3) (by decide) (by decide) (n_ zo) ?_;rw [show Cz Sz (tq b) (num 3).n=_ from TI b];exact hk
theorem Li (b:Option Nat):cD [48,46,48] (tq b).th=some (0,RY 3 a1 (num 5)):=by kernel_rfl
theorem Ta {K:Out→H→Prop} (b:Option Nat) (hk:K (.ret (.tu [gH (RY 3 a1 (num 5)),.d (.bool true)])) (kH (tq b))):Sat Tryz.prog 16 [.p 0 0,.d (.str [48,46,48])] (kH (tq b)) K:=by
 have e:iR (tq b) [48,46,48]=RY 3 a1 (num 5):=by unfold iR;rw [Li];rfl
 have e2:mA (tq b) [48,46,48]=true:=by unfold mA;rw [Li];rfl
 refine qZ (tq b) [48,46,48] (by rw [e];decide) ?_;rw [e,e2];exact hk
set_option maxHeartbeats 4000000 in
theorem Di:bJ Tryz.prog 9 [] (.d (.bool true)):=by
 have e20:bJ Tryz.prog 20 [gT c00,.d (.int .i64 0),.d (.int .i64 0),.d (.sl 5 ([num 5].map cE)),.d (.int .u8 0)] (.tu [gT (wR 0 []),.d (.bool true)]):=kN c00 0 0 [num 5] 0 (by decide) (by decide);refine s9.go (keep:=false) rfl ?_
 repeat' ((conv=>whnf);first | exact zf | refine zm ?_ | refine zc (pC 5) ?_ | refine zc e20 ?_ | refine zc Ng ?_ | refine zc (Fh [48] ⟨n7,AW⟩ (wR 0 []) 1) ?_ | refine (Lf ?_) | intro _)
 conv=>whnf
 refine bV [(1,.p 0 0),(2,.p 1 0),(5,.p 3 0),(6,.p 4 0)] (λq:Nat×Option Nat=>q.1≤5) (λq=>[(7,.d (.int .i64 0)),(8,.d (.int .i64 q.1))]) (λq=>VI (S9 q.1 q.2)) (λq=>5 - q.1) (0,none) (aj _) ?_ ?_ ?_ (λq hq=>?_)
 ·exact zzz
 ·exact zzz
 ·exact (by kernel_rfl)
 obtain ⟨i,b⟩:=q;have hq:i≤5:=hq
 by_cases hi:i<5
 ·skip
  repeat' ((conv=>whnf);first | exact zf | refine zm ?_ | refine (.inr ?_:(∃_,_)∨_) | refine (do34_9 i hi b (λb''=>?_)) | refine zt ?_ | refine zu ?_ | intro _)
  exact ⟨(i+1,b''),hi,(by show 5 - (i+1)<5 - i;omega),zzz,zzz,rfl⟩
 ·have hi5:i=5:=by omega
  subst hi5
  repeat' ((conv=>whnf);first | exact zf | refine zm ?_ | refine ⟨cE (num 5),⟨by omega,rfl,rfl⟩,?_⟩ | refine (.inr ?_:(∃_,_)∨_) | refine (Ta b ?_) | refine (do34_5 b ?_) | refine (do34_6 b ?_) | refine (QW b ?_) | refine zc (pC 3) ?_ | refine zc (pC 5) ?_ | refine zc (pC (-3)) ?_ | refine zt ?_ | refine zu ?_ | intro _)
end Go.Proofs.YtjpgfgajkjhonaaGreatDoor
namespace Go.Proofs.YtjpgfgajkjhonaaGreatDoor
open Go.Vx
set_option maxRecDepth 100000
section
variable {mx:Int} {q n:Nat} {t:Th} {s:bq} {now:Int} {b:Option Nat}
def wg (g:Gs) (l:List Sc):Prop:=∀x∈l,bA g.eo x.l=true∧bA x.g.cur g.cur=true
structure FI (t:Th):Prop where
  a:bA t.g.cur t.g.eo=true
  b:wg t.g t.sc
  c:∀k x,t.sc[k]? = some x→bA x.g.cur x.g.eo=true∧wg x.g (t.sc.take k)
theorem wg.move {g h:Gs} {l:List Sc} (H:wg g l) (h1:bA g.cur h.cur=true) (h2:bA h.eo g.eo=true):wg h l:=λx hx=>⟨me h2 (H x hx).1,me (H x hx).2 h1⟩
theorem FI.move {t':Th} (H:FI t) (hg:GStep t.g t'.g) (hs:t'.sc=t.sc):FI t':=⟨hg.in H.a,by rw [hs];exact H.b.move hg.up.1 hg.up.2,by rw [hs];exact H.c⟩
def Ar (t t':Th):Prop:=bA t.g.cur t'.g.cur=true∧bA t'.g.eo t.g.eo=true∧(FI t→FI t')
theorem fN {t':Th} (hg:GStep t.g t'.g) (hs:t'.sc=t.sc):Ar t t':=⟨hg.up.1,hg.up.2,λH=>H.move hg hs⟩
theorem ka.A6 {ma:Int} {e:Fx} {t':Th} {s':bq} (D:ka now mx q n t ma s b e t' s'):(∃x,e = .log x)∨Ar t t':=by
 cases D with
 |go g k st on hg=>exact .inr (fN hg rfl)
 |log x=>exact .inl ⟨x,rfl⟩
 |out x=>exact .inr (fN .same rfl)
 |set e g i nm o p k st on _ _ _ _ _ h1 h2 hg=>
  refine .inr (fN ?_ rfl);rcases hg with rfl | rfl
  ·exact .same
  ·exact .both o.l h1 h2
 |make o k=>exact .inr (fN .same rfl)
 |fork l ro k d=>exact .inr (fN .same rfl)
 |scope l tk ro k h1 h2=>
  have hc:bA (eC l) t.g.eo=true:=by rw [l6];exact h2
  have hc2:bA t.g.cur (eC l)=true:=by rw [l5];exact h1
  have hm:∀{l':List Sc},wg t.g l'→wg ⟨t.g.cur,eC l⟩ l':=λH=>H.move (fP _) hc;refine .inr ⟨fP _,hc,λH=>⟨hc2,λx hx=>?_,λk x hx=>?_⟩⟩
  ·rcases aR.1 hx with h | h
   ·exact hm H.b x h
   ·rw [aP.1 h];exact ⟨fP (eC l),fP _⟩
  ·have hx:(t.sc ++ [oO t l tk ro now (cr (lY t))])[k]? = some x:=hx;show bA x.g.cur x.g.eo=true∧wg x.g ((t.sc ++ [oO t l tk ro now (cr (lY t))]).take k);rcases ck k t.sc.length with hk | hk
   ·rw [aN hk] at hx;rw [List.take_append_of_le_length (Nat.le_of_lt hk)];exact H.c k x hx
   ·rw [aW hk] at hx;have hk0:k - t.sc.length=0:=by
     rcases Nat.eq_zero_or_pos (k - t.sc.length) with h | h
     ·exact h
     ·rw [dB (show 1≤_ from h)] at hx;cases hx
    rw [hk0] at hx;cases hx;have:k=t.sc.length:=by omega
    subst this;rw [List.take_left];exact ⟨H.a,H.b⟩
theorem qt.A6 {r:Rs} (T:qt now mx q n t s b r):(∃x,r.e = .log x)∨Ar t r.t:=by
 cases T with
 |idle _=>exact .inr (fN .same rfl)
 |core g k _ hg=>exact .inr (fN hg rfl)
 |fin g k v ex _ hg=>exact .inr (fN hg rfl)
 |Nx k ma e t' s' _ _ _ D=>
  rcases D.A6 with h | ⟨h1,h2,h3⟩
  ·exact .inl h
  ·exact .inr ⟨h1,h2,λH=>h3 ⟨H.a,H.b,H.c⟩⟩
theorem FI.leave (H:FI t) (now:Int) (b:Option Nat):FI (dX t s now b).1:=by
 unfold dX;cases hi:t.sc[gQ now t.sc]? with
 |none=>exact H
 |some x=>
  obtain ⟨h1,h2⟩:=H.c _ x hi;refine ⟨h1,h2,λk y hy=>?_⟩;have hy:(t.sc.take (gQ now t.sc))[k]? = some y:=hy;rw [aZ] at hy;split at hy
  ·rename_i hk;have:=H.c k y hy;refine ⟨this.1,?_⟩;show wg y.g ((t.sc.take (gQ now t.sc)).take k);rw [List.take_take,eZ (Nat.le_of_lt hk)];exact this.2
  ·cases hy
def nh:Fx→Bool
 |.log _=>true
 |_=>false
structure FS (mx:Int) (q n:Nat) (lk:Bool) (t:Th) (s:bq):Prop where
  th:gj mx n t
  so:gb mx q n s
  f:lk=false→FI t
theorem FS.step {lk:Bool} {im:Im} (hP:tw im) (h0:0≤mx) (hx:mx≤255) (hn:n<30000000) (h:FS mx q n lk t s) (b b':Option Nat) :
  FS mx (q+3) (n+3) (lk||nh (kG im now b b' t s).e) (kG im now b b' t s).t (kG im now b b' t s).s ∧
  (t.sc[gQ now t.sc]? = none→nh (kG im now b b' t s).e=false→bA t.g.cur (kG im now b b' t s).t.g.cur=true∧bA (kG im now b b' t s).t.g.eo t.g.eo=true):=by
 have hk:=zG hP h.th h.so h0 hx (by omega) b b' (now:=now);have T:=rZ hP h.th h.so h0 hx (by omega) b b' (now:=now);have hf:=T.A6;refine ⟨⟨hk.1,hk.2.mono,λhl=>?_⟩,λhd hl=>?_⟩
 ·rw [iK] at hl;rcases hf with ⟨x,hx⟩ | hf
  ·rw [hx] at hl;cases hl.2
  ·exact hf.2.2 ((h.f hl.1).leave now b)
 ·rcases hf with ⟨x,hx⟩ | hf
  ·rw [hx] at hl;cases hl
  ·have e:(dX t s now b).1=t:=by unfold dX;rw [hd]
   rw [e] at hf;exact ⟨hf.1,hf.2.1⟩
theorem FI.seen (H:FI t) {k:Nat} {x:Sc} (hx:t.sc[k]? = some x):bA t.g.cur x.l=true∧bA x.g.cur t.g.cur=true:=
 have h:=H.b x (aH hx)
 ⟨me H.a h.1,h.2⟩
end
end Go.Proofs.YtjpgfgajkjhonaaGreatDoor
namespace Go.Proofs.YtjpgfgajkjhonaaGreatDoor
open Go.Vx
set_option maxRecDepth 100000
section
variable {mx:Int} {q n:Nat} {t:Th} {s:bq} {now:Int} {b:Option Nat}
theorem ka.id {ma:Int} {e:Fx} {t':Th} {s':bq} (D:ka now mx q n t ma s b e t' s'):t'.id=t.id:=by cases D<;>rfl
end
end Go.Proofs.YtjpgfgajkjhonaaGreatDoor
namespace Go.Proofs.YtjpgfgajkjhonaaGreatDoor
open Go.Vx
set_option maxRecDepth 100000
def sJ (d:List Op):Prop:=∀o∈d,o.c≠24∧o.c≠31
theorem jk {a b:List Op} (ha:sJ a) (hb:sJ b):sJ (a++b):=λo ho=>(aR.1 ho).elim (ha o) (hb o)
theorem eM {c a:Int} {b:List Op} (h:c≠24∧c≠31) (hb:sJ b):sJ (⟨c,a⟩ :: b):=λo ho=>by
 rcases ae.1 ho with e | e
 ·rw [e];exact h
 ·exact hb o e
theorem hZ:sJ []:=λo ho=>by cases ho
theorem LG.low {h h':Int} {d:List Op} (H:LG h d h'):sJ d:=by
 induction H with
 |nil=>exact hZ
 |cons _ hc _ _ _ _ ih=>
  refine eM ⟨?_,?_⟩ ih
  ·rintro rfl;cases hc
  ·rintro rfl;cases hc
theorem uK.low {d:List Op} (h:uK d):sJ d:=by
 rcases h with h | ⟨n,_,_,rfl⟩
 ·exact h.1.low
 ·exact eM ⟨by decide,by decide⟩ (eM ⟨by decide,by decide⟩ hZ)
theorem Part.low {b:Int} {p:List Op} (h:Part b p):sJ p:=by
 obtain ⟨d,hd,h⟩:=h;have l:=hd.low;rcases h with rfl | rfl | ⟨_,rfl⟩ | ⟨_,rfl⟩
 ·exact l
 ·exact jk (eM ⟨by decide,by decide⟩ (eM ⟨by decide,by decide⟩ hZ)) l
 ·exact jk (jk (eM ⟨by decide,by decide⟩ hZ) l) (eM ⟨by decide,by decide⟩ hZ)
 ·exact jk (jk (eM ⟨by decide,by decide⟩ hZ) l) (eM ⟨by decide,by decide⟩ (eM ⟨by decide,by decide⟩ (eM ⟨by decide,by decide⟩ hZ)))
theorem my.low {c:List Op} {k:Nat} (h:my c k):sJ c∧c.length≤12*k:=by
 induction h with
 |nil=>exact ⟨hZ,aj _⟩
 |snoc _ hp ih=>exact ⟨jk ih.1 hp.low,by have:=ih.2;have:=hp.len;rw [aL];omega⟩
theorem qJ.low {f:Fn} (h:qJ f):sJ f.code∧f.code.length≤146:=by
 obtain ⟨_,_,p,k,n,hp,_,hk,_,_,e⟩:=h;rw [e];refine ⟨jk hp.low.1 (eM ⟨by decide,by decide⟩ (eM ⟨by decide,by decide⟩ hZ)),?_⟩;have:=hp.low.2;rw [aL];show _+2≤_;omega
theorem Kg:∀v∈Kh,cO (bD v):=by
 intro v hv;rcases aR.1 hv with h | h
 ·obtain ⟨x,_,rfl⟩:=bL.1 h;exact ga x
 ·obtain ⟨x,hx,rfl⟩:=bL.1 h;have h2:x.s.length≤2∧x.i.length≤2:=by
   have:uA.all (λl=>decide (l.s.length≤2)&&decide (l.i.length≤2))=true:=by kernel_rfl
   have:=aT.1 this x hx;simpa using this
  exact And.intro (aY h2.1 (by decide)) (aY h2.2 (by decide))
theorem wh.pr {im:Im} (h:wh im):tw im where
 hI:=⟨λi g hg=>by rw [(h.2.2 g (aH hg)).1];unfold eW;decide⟩
 ar:=λg hg=>by rw [(h.2.2 g hg).1];decide
 cd:=λg hg=>by have:=(h.2.2 g hg).low.2;omega
 dm:=λg hg=>(h.2.2 g hg).low.1
 cs:=by rw [h.1];exact Kg
end Go.Proofs.YtjpgfgajkjhonaaGreatDoor
namespace Go.Proofs.YtjpgfgajkjhonaaGreatDoor
open Go.Vx
set_option maxRecDepth 100000
theorem JN {K:Out→H→Prop} {mx:Int} {q n:Nat} (im:Im) (t:Th) (s:bq) (now:Int) (hP:tw im) (ht:gj mx n t) (hs:gb mx q n s) (h0:0≤mx) (hx:mx≤255) (hn:n<40000000) (hq:q<80000000) (hw:0≤now∧now<1000000000)
  (hk:∀b b',K (.ret (qp ((kG im now b b' t s).e.ef (kG im now b b' t s).d))) (yt im (kG im now b b' t s).t (kG im now b b' t s).s)) :
  Sat Tryz.prog 12 [.p 0 0,.d (.int .i64 now)] (yt im t s) K:=by
 have h1:=λb=>oJ (now:=now) ht hs h0 b;refine JP im t s now ht.g.1 (by have:=ht.sl;omega) (by have:=ht.co.st;omega) (λsc hsc=>(ht.sc sc hsc).UX) ⟨by have:=hs.nm;omega,λp hp=>⟨by have:=(hs.ns p hp).1;omega,(hs.ns p hp).2⟩⟩ (λb _=>?_) hk;exact (h1 b).1.T hP (h1 b).2 hx hw (by omega) (by omega)
theorem JO {K:Out→H→Prop} {mx:Int} {q n:Nat} (im:Im) (t:Th) (s:bq) (now:Int) (hP:tw im) (ht:gj mx n t) (hs:gb mx q n s) (h0:0≤mx) (hx:mx≤255) (hn:n<40000000) (hq:q<80000000) (hw:0≤now∧now<1000000000)
  (hk:∀b b' r E,r=kG im now b b' t s→E=r.e.ef r.d→K (.ret (qp E)) (yt im r.t r.s)) :
  Sat Tryz.prog 12 [.p 0 0,.d (.int .i64 now)] (yt im t s) K:=
 JN im t s now hP ht hs h0 hx hn hq hw λb b'=>hk b b' _ _ rfl rfl
def Px (im:Im) (x:H6) (t:Th) (s:bq):H:=[.cells (pX x),.cells ([.d (.sl 5 (im.cs.map cE)),.d (.sl 3 (im.fs.map db)),.p 2 0]++(gX t).map .d),.cells [.mp 3,.mp 4],.dm (qw s.th),.ms 1 (qT s.nm) none none]
theorem GB (i:Int):cO ((iQ[i.toNat]?).getD n7):=by
 cases h:iQ[i.toNat]? with
 |none=>exact lM
 |some l=>exact wC l (aH h)
theorem Kz (ar:Int):cO (bD (lh ar)):=by
 unfold lh;cases decide (60<ar)
 ·exact lM
 ·exact GB _
theorem PK (mx:Int) (x:H6) (hx:xc x) (hm:x.mz.tmod 4≤mx):gj mx 1 (K_ x) where
 co:=by
  have hm2:x.mz.tmod 4=x.mz % 4:=bC hx.mz.1;exact ((okCo_0 mx 0).enter rfl (x.fn.tmod 3) 7 [lh x.ar] (x.mz.tmod 4) (show 1≤20 by decide) (λv hv=>by rw [aP.1 hv];exact Kz _) (by omega)).mono (aj _)
 g:=And.intro (GB _) (vR _ _)
 pa:=⟨[3],QD.symm,by decide,by decide,jW _,by
  have hr:x.ro.tmod 16=x.ro % 16:=bC hx.ro.1;show 0≤x.ro.tmod 16;rw [hr];omega,by
  have hr:x.ro.tmod 16=x.ro % 16:=bC hx.ro.1;show 0+x.ro.tmod 16≤15;rw [hr];omega,by
  have hr:x.ro.tmod 16=x.ro % 16:=bC hx.ro.1;show ((1:Nat):Int)+x.ro.tmod 16≤16;rw [hr];omega⟩
 sc:=λs hs=>by cases hs
 sl:=aj _
 v:=n5
theorem EI.cases {mx:Int} {q n d:Nat} {r:Rs} (h:EI mx q n (d+bif r.d then 1 else 0) r.t r.s):∃j l va fu ma,va.q.length≤q ∧
    ((∃ v ex, cD [51] r.s.th = some (j, ⟨6, l, v, ex, false, va, fu, ma⟩) ∧ r.d = false ∧ d = 0 ∧ (r.t.st == 3) = false ∧ (r.t.st == 4) = false ∧ True) ∨
     (cD [51] r.s.th=some (j,⟨6,l,r.t.v,false,true,va,fu,ma⟩)∧r.d=false∧d=1∧(r.t.st==3)=true∧(r.t.st==4)=false∧r.t.ex=false) ∨
     (cD [51] r.s.th=some (j,⟨6,l,r.t.v,false,true,va,fu,ma⟩)∧r.d=true∧d=0∧(r.t.st==3)=true∧(r.t.st==4)=false∧r.t.ex=false) ∨
     (cD [51] r.s.th=some (j,⟨6,l,r.t.v,true,true,va,fu,ma⟩)∧r.d=false∧d=1∧(r.t.st==3)=false∧(r.t.st==4)=true∧r.t.ex=true) ∨
     (cD [51] r.s.th=some (j,⟨6,l,r.t.v,true,true,va,fu,ma⟩)∧r.d=true∧d=0∧(r.t.st==3)=false∧(r.t.st==4)=true∧r.t.ex=true)):=by
  obtain ⟨j,o,c1,c2,c3,c4⟩:=h.c
  have hd:=h.d
  have hq:o.va.q.length≤q:=by
    obtain ⟨p,hp,rfl⟩:=jl c1
    exact (h.so.th p hp).ql
  obtain ⟨k,l,v,ex,dn,va,fu,ma⟩:=o
  dsimp only at c2 c3 c4 hq
  subst c2
  refine ⟨j,l,va,fu,ma,hq,?_⟩
  cases ho:u0 r.t with
  |false=>
    rw [ho] at c3 hd
    subst c3
    have hn:=ho
    unfold u0 at hn
    rw [iK] at hn
    refine .inl ⟨v,ex,c1,?_,?_,hn.1,hn.2,trivial⟩
    · cases hr:r.d with
      |false=>rfl
      |true=>rw [hr] at hd;exact absurd hd (by simp)
    · have hd:d+(bif r.d then 1 else 0)=0:=hd
      omega
  |true=>
    obtain ⟨e1,e2,e3,_⟩:=c4 ho
    rw [ho] at c3 hd
    subst c3 e1 e2
    unfold u0 at ho
    cases h4:r.t.st==4 with
    |true=>
      have h3:r.t.st=4:=by simpa using h4
      have hex:=e3.trans h4
      rw [hex] at c1
      cases hr:r.d with
      |false=>
        rw [hr] at hd
        exact .inr (.inr (.inr (.inl ⟨c1,rfl,(show d+0=1 from hd),by rw [h3];rfl,rfl,hex⟩)))
      |true=>
        rw [hr] at hd
        have hd:d+1=1:=hd
        exact .inr (.inr (.inr (.inr ⟨c1,rfl,by omega,by rw [h3];rfl,rfl,hex⟩)))
    |false=>
      rw [h4,Bool.or_false] at ho
      have hex:=e3.trans h4
      rw [hex] at c1
      cases hr:r.d with
      |false=>
        rw [hr] at hd
        exact .inr (.inl ⟨c1,rfl,(show d+0=1 from hd),ho,rfl,hex⟩)
      |true=>
        rw [hr] at hd
        have hd:d+1=1:=hd
        exact .inr (.inr (.inl ⟨c1,rfl,by omega,ho,rfl,hex⟩))
end Go.Proofs.YtjpgfgajkjhonaaGreatDoor
