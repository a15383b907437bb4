/- What the rows' list gives: the table of the ops is what the functions read; and a world that holds all of the list. Conditions: the list's own. -/
import Derived.Test.YtjpgfgajkjhonaaGreatDoorQEAR
import Derived.Test.YtjpgfgajkjhonaaGreatDoorQEBH
import Derived.Test.YtjpgfgajkjhonaaGreatDoorCards
import Derived.Test.YtjpgfgajkjhonaaGreatDoorTie
import Derived.Deep.DeepHandedRow
import Derived.Deep.DeepWitnessRowRef
import Derived.Lib.LaidTab
import Derived.Lib.SmallJoins
import Derived.Stop.LaidErr
import Derived.Lay
import Derived.Test.YtjpgfgajkjhonaaGreatDoorQEBG
import Derived.Test.YtjpgfgajkjhonaaGreatDoorQEBE
import Derived.Test.YtjpgfgajkjhonaaGreatDoorQEBF
import Derived.Test.YtjpgfgajkjhonaaGreatDoorQEAT
namespace Go.Proofs.YtjpgfgajkjhonaaGreatDoor
open Go.Vx
set_option maxRecDepth 100000
open Go.ChangeShapes Go.WideShapes Go.ChangeAt Go.RowKit
def RG {H:Type}:List D→DataW H
 |[.str s,.int _ a,.int _ b,.int _ c]=>.agg [.lit (.string s),.lit (.int .u8 a),.lit (.int .u8 b),.lit (.int .u8 c)]
 |_=>.nil
theorem J2 {H:Type}:(Rows.laid_lazaretto_op_table:DataW H) = .agg (gr.map RG):=rfl
theorem FR:laidOutB Tryz.prog=true:=by kernel_rfl
theorem S3:ownKnob Tryz.prog.godebug=none:=by kernel_rfl
theorem Sx:Tryz.prog.globalNamed "lazaretto/op.table" = some 0:=by kernel_rfl
theorem Jf:(Tryz.prog.globals[0]?).map (·.type)=some 276:=by kernel_rfl
theorem G6:Tryz.prog.cellsOf 276=188:=by kernel_rfl
theorem xn:Tryz.prog.cellsOf 275=4:=by kernel_rfl
theorem NZ:Tryz.prog.cellsOf 5=1:=by kernel_rfl
theorem NY:Tryz.prog.cellsOf 9=1:=by kernel_rfl
theorem Jh {α:Type} {cs:List α} (h:cs.length=4):∃c0 c1 c2 c3,cs = [c0,c1,c2,c3]:=by
 match cs,h with
 |[c0,c1,c2,c3],_=>exact ⟨c0,c1,c2,c3,rfl⟩
theorem L_ {H:Type} {enc:TypeId×Value→H} {w:World} {base:Nat} {sp:Nat→Bool} {held:Bool} {fuel:Nat} {cs:List Value} {s:List UInt8} {a b c:Int} {p:List MemPlace} (G:Nat→Prop)
  (h:DataW.trod enc Tryz.prog w base sp held fuel 275 cs=some (.agg [.lit (.string s),.lit (.int .u8 a),.lit (.int .u8 b),.lit (.int .u8 c)],p)) :
  cs.length=4∧∀(j:Nat) (x:D),[D.str s,.int .u8 a,.int .u8 b,.int .u8 c][j]? = some x→∃v,cs[j]? = some v∧bt G w v x:=by
 obtain ⟨y0,y1,y2,y3,n,hx,hl,h0,h1,h2,h3⟩:=Go.Joins.trod_struct4 Tryz.underlying275 h;rw [xn] at hl;obtain ⟨c0,c1,c2,c3,rfl⟩:∃c0 c1 c2 c3,cs = [c0,c1,c2,c3]:=Jh hl;simp only [NY,NZ,List.drop_zero,lY,dT,List.take_zero] at h0 h1 h2 h3;obtain ⟨s',e0,rfl,hs⟩:=DataW.trod_string Tryz.underlying9 h0;obtain ⟨a',e1,rfl,_⟩:=DataW.trod_int Tryz.underlying5 h1;obtain ⟨b',e2,rfl,_⟩:=DataW.trod_int Tryz.underlying5 h2;obtain ⟨c',e3,rfl,_⟩:=DataW.trod_int Tryz.underlying5 h3;simp only [List.cons.injEq,and_true] at e0 e1 e2 e3;subst e0 e1 e2 e3;simp only [ck,DataW.agg.injEq,List.cons.injEq,DataW.lit.injEq,Lit.string.injEq,Lit.int.injEq,and_true,true_and] at hx;obtain ⟨⟨rfl,rfl,rfl,rfl⟩,_⟩:=hx;refine ⟨rfl,λj x hj=>?_⟩
 match j,hj with
 |0,hj=>cases hj;exact ⟨_,rfl,.str s' hs⟩
 |1,hj=>cases hj;exact ⟨_,rfl,.int .u8 _⟩
 |2,hj=>cases hj;exact ⟨_,rfl,.int .u8 _⟩
 |3,hj=>cases hj;exact ⟨_,rfl,.int .u8 _⟩
 |j+4,hj=>simp at hj
theorem Ej:∀i,i<47→∃s a b c,gr[i]? = some [.str s,.int .u8 a,.int .u8 b,.int .u8 c]:=by
 intro i hi
 match i,hi with
 |0,_ | 1,_ | 2,_ | 3,_ | 4,_ | 5,_ | 6,_ | 7,_ | 8,_ | 9,_ | 10,_ | 11,_ | 12,_ | 13,_ | 14,_ | 15,_ | 16,_ | 17,_ | 18,_ | 19,_ | 20,_ | 21,_ | 22,_ | 23,_ | 24,_ | 25,_ | 26,_ | 27,_ | 28,_ | 29,_ | 30,_ | 31,_ | 32,_ | 33,_ | 34,_ | 35,_ | 36,_ | 37,_ | 38,_ | 39,_ | 40,_ | 41,_ | 42,_ | 43,_ | 44,_ | 45,_ | 46,_=>exact ⟨_,_,_,_,rfl⟩
 |n+47,h=>omega
theorem LL:∀(l:List (List D)),(∀r∈l,r.length=4)→∀(j:Nat),l.flatten[j]? = (l[j / 4]?).bind (·[j % 4]?)
 |[],_,j=>by simp
 |r :: l,h,j=>by
  have hr:=h r (by simp);rw [List.flatten_cons]
  by_cases hj:j<4
  ·rw [aN (by omega),Nat.div_eq_of_lt hj,dq hj];simp
  ·rw [aX (by omega),LL l (λx hx=>h x (by simp [hx])),hr,show j / 4=(j - 4) / 4+1 by omega,show j % 4=(j - 4) % 4 by omega];simp
theorem Fl (j:Nat):j / 4*4+j % 4=j:=by omega
theorem JM {l:List (List D)} {n i:Nat} {f:List D→Option D} {x:D} {A:Prop} (hl:l.length=n) (h:¬i<n) (hx:(l[i]?).bind f=some x):A:=by
 rw [eD (by omega)] at hx;cases hx
theorem MY:gr.length=47:=rfl
theorem JD:∀r∈gr,r.length=4:=by decide
theorem PX {k g:Nat} {r row:List D} (h:yY [(k,r)] g=some row):g=k∧row=r:=by
 simp only [yY] at h;cases hb:Nat.beq k g with
 |false=>rw [hb] at h;cases h
 |true=>
  rw [hb] at h;exact ⟨(dA hb).symm,(aj h).symm⟩
theorem NB {W:World} (h:laidMet Tryz.prog Rows.sysThrowsRow.laid W):Nh (all W) W:=by
 have h7:laidMet Tryz.prog [("lazaretto/op.table",Rows.laid_lazaretto_op_table),("unicode/utf8.first",Rows.laid_unicode_utf8_first)] W:=laidMet.tail (laidMet.tail (laidMet.tail (laidMet.tail (laidMet.tail (laidMet.tail h)))));obtain ⟨ps,⟨g,t,cs,fuel,p,q,hg,ht,hv,hd,_,_⟩,_⟩:=h7;obtain rfl:=aj (Sx.symm.trans hg);obtain rfl:=aj (Jf.symm.trans ht);rw [J2] at hd;obtain ⟨xs,m,rfl,hx,hl,hxl,hel⟩:=DataW.trod_array Tryz.underlying276 hd;rw [xn] at hel;rw [G6] at hl;simp only [ck,DataW.agg.injEq] at hx;have hlt:0<W.heap.size:=by
  unfold World.var? at hv;rw [Sx] at hv;rcases cp 0 W.heap.size with h' | h'
  ·exact h'
  ·simp [jm h'] at hv
 have key:∀(j:Nat) (x:D),gr.flatten[j]? = some x→∃v,cs[j]? = some v∧bt (all W) W v x:=by
  intro j x hj;rw [LL _ JD] at hj
  by_cases hi:j / 4<47
  ·obtain ⟨s,a,b,c,hs⟩:=Ej _ hi;have h1:=hel _ hi;have h2:(xs.map (·.1))[j / 4]? = some (.agg [.lit (.string s),.lit (.int .u8 a),.lit (.int .u8 b),.lit (.int .u8 c)]):=by
    rw [←hx.1,aC,hs];rfl
   rw [aC] at h2;cases hy:xs[j / 4]? with
   |none=>rw [hy] at h2;cases h2
   |some y=>
    rw [hy] at h2 h1;obtain ⟨y1,y2⟩:=y;simp only [bF,aF] at h2;subst h2;obtain ⟨_,hk⟩:=L_ (all W) h1;rw [hs] at hj;obtain ⟨v,hv1,hv2⟩:=hk (j % 4) x (by simpa using hj);refine ⟨v,?_,hv2⟩;rw [List.getElem?_take_of_lt (Nat.mod_lt _ (by decide)),ao,Fl] at hv1;rw [←bM];exact hv1
  ·exact JM MY hi hj
 intro g row hrow;have hg0:g=0∧row=gr.flatten:=by
  unfold Qz at hrow;exact PX hrow
 obtain ⟨rfl,rfl⟩:=hg0;refine ⟨hlt,λj=>cs.getD j undef,λj x hj=>?_,λj x hj=>?_⟩
 ·obtain ⟨v,h1,_⟩:=key j x hj;rw [World.var?_cell Sx hv,b8,h1];simp [h1]
 ·obtain ⟨v,h1,h2⟩:=key j x hj;simp only [aE,h1];exact h2
theorem Qv {l:List (String×DataW Unit)} (e:(l.filter λx=>x.2.handleName?.isSome) = []) {W:World} (h:laidMetH Tryz.prog l W):laidMet Tryz.prog l W:=by
 unfold laidMetH at h;rw [e] at h;exact h
theorem zG:(Rows.sysThrowsRow.laid.filter λx=>x.2.handleName?.isSome) = []:=by kernel_rfl
theorem sE {W:World} (h:laidMetH Tryz.prog Rows.sysThrowsRow.laid W):Nh (all W) W:=NB (Qv zG h)
noncomputable def xV (os:Os):World:=World.laidAll Tryz.prog os Rows.sysThrowsRow.laid
theorem FQ (os:Os):(xV os).os=os:=World.laidAll_os _ _ _
theorem Ci (os:Os) (args:Array Value):laidMet Tryz.prog Rows.sysThrowsRow.laid ((xV os).forCall (λ_ _=>0) ⟨#[],args,[]⟩).memory:=
 laidMet_laidAll args (by kernel_rfl) (by kernel_rfl)
theorem zT (os:Os) (args:Array Value):(((xV os).forCall (λ_ _=>0) ⟨#[],args,[]⟩).heap.toList.drop Tryz.checked.prog.globals.size).take ((begin Tryz.checked.prog (λ_ _=>0) default).world.heap.size - Tryz.checked.prog.globals.size) =
 (begin Tryz.checked.prog (λ_ _=>0) default).world.heap.toList.drop Tryz.checked.prog.globals.size:=by kernel_rfl
end Go.Proofs.YtjpgfgajkjhonaaGreatDoor
namespace Go.Proofs.YtjpgfgajkjhonaaGreatDoor
open Go.Vx
set_option maxRecDepth 100000
open Go.ChangeShapes Go.WideShapes Go.ChangeAt Go.RowKit
abbrev SJ:Go.Vx.Ty:=.pr .str (.pr .str .un)
abbrev Re:Go.Vx.Ty:=.pr (.int .i64) (.pr (.int .i64) (.pr .str (.pr SJ .un)))
abbrev SI:Go.Vx.Ty:=.pr .str (.pr .bool (.pr Re .un))
abbrev UO:Go.Vx.Ty:=.pr .bool (.pr Re (.pr (.sl SI) .un))
abbrev Tf:Go.Vx.Ty:=.pr (.int .i64) (.pr SJ (.pr Re (.pr .bool (.pr .bool (.pr UO (.pr (.int .i64) (.pr (.int .u8) .un)))))))
abbrev PS:Go.Vx.Ty:=.pr (.int .u8) (.pr Tf .un)
abbrev Te:Go.Vx.Ty:=.pr (.int .u8) (.pr (.int .u8) (.pr (.int .u8) (.pr (.int .u8) (.pr (.int .u8) (.pr (.int .u8) .un)))))
theorem PN:uf Tryz.prog 9 22=some (.sl (.sl (.int .u8))):=by kernel_rfl
theorem PO:uf Tryz.prog 9 23=some (.sl PS):=by kernel_rfl
theorem PR:uf Tryz.prog 9 25=some Te:=by kernel_rfl
theorem ux {N:Nat} {xs:List D} (h:lZ N (.int .u8) xs):∃n:Int,(0≤n∧n≤255)∧xs = [D.int .u8 n]:=by
 obtain ⟨n,rfl,hn⟩:=oJ h;exact ⟨n,⟨by unfold eN at hn;omega,by unfold eN at hn;omega⟩,rfl⟩
theorem wq:∀(rows:List (List D)),(∀row∈rows,∃n:Int,(0≤n∧n≤255)∧row = [D.int .u8 n])→∃l,rows=dz l∧nv l
 |[],_=>⟨[],rfl,λ_ h=>by cases h⟩
 |r :: rs,h=>by
  obtain ⟨n,hn,rfl⟩:=h r (by simp);obtain ⟨l,rfl,hl⟩:=wq rs (λy hy=>h y (by simp [hy]));exact ⟨n :: l,rfl,λx hx=>by
   rcases ae.1 hx with rfl | hx
   ·exact hn
   ·exact hl x hx⟩
theorem uB {N:Nat}:∀(rows:List (List D)),(∀row∈rows,lZ N (.sl (.int .u8)) row)→∃L:List (List Int),rows=(L.map λl=>[D.sl 1 (dz l)])∧∀l∈L,nv l
 |[],_=>⟨[],rfl,λ_ h=>by cases h⟩
 |r :: rs,h=>by
  obtain ⟨q,rfl,_,hq⟩:=uw (h r (by simp));obtain ⟨l,rfl,hl⟩:=wq q λrow hrow=>ux (hq row hrow);obtain ⟨L,rfl,hL⟩:=uB rs (λy hy=>h y (by simp [hy]));exact ⟨l :: L,rfl,λx hx=>by
   rcases ae.1 hx with rfl | hx
   ·exact hl
   ·exact hL x hx⟩
theorem Ls {N:Nat} {rows:List (List D)} (h:lZ N (.sl (.sl (.int .u8))) [.sl (Go.Vx.Ty.sl (.int .u8)).n rows]):∃L:List (List Int),rows=(L.map λl=>[D.sl 1 (dz l)])∧∀l∈L,nv l:=by
 obtain ⟨_,he,_,hr⟩:=uw h;cases he;exact uB rows hr
section
variable {xs:List D}
theorem P2 (h:lZ 1048576 SJ xs):∃l:Lb,xs = [.str l.s,.str l.i]∧cL l:=by
 obtain ⟨_,_,rfl,h1,g1⟩:=dh h;obtain ⟨s,rfl,l1⟩:=qa h1;obtain ⟨_,_,rfl,h2,g2⟩:=dh g1;obtain ⟨i,rfl,l2⟩:=qa h2;cases nZ g2;exact ⟨⟨s,i⟩,rfl,And.intro (aY l1 (by decide)) (aY l2 (by decide))⟩
theorem Lr (h:lZ 1048576 Re xs):∃v:Va,xs=cE v∧cL (bB v):=by
 obtain ⟨_,_,rfl,h1,g1⟩:=dh h;obtain ⟨k,rfl,_⟩:=oJ h1;obtain ⟨_,_,rfl,h2,g2⟩:=dh g1;obtain ⟨n,rfl,_⟩:=oJ h2;obtain ⟨_,_,rfl,h3,g3⟩:=dh g2;obtain ⟨nm,rfl,_⟩:=qa h3;obtain ⟨_,_,rfl,h4,g4⟩:=dh g3;obtain ⟨l,rfl,hl⟩:=P2 h4;cases nZ g4;exact ⟨⟨k,n,nm,l.s,l.i⟩,rfl,hl⟩
theorem SV (h:lZ 1048576 SI xs):∃w:Wt,xs=eK w∧cL (bB w.v):=by
 obtain ⟨_,_,rfl,h1,g1⟩:=dh h;obtain ⟨i,rfl,_⟩:=qa h1;obtain ⟨_,_,rfl,h2,g2⟩:=dh g1;obtain ⟨b,rfl⟩:=oK h2;obtain ⟨_,_,rfl,h3,g3⟩:=dh g2;obtain ⟨v,rfl,hv⟩:=Lr h3;cases nZ g3;exact ⟨⟨i,b,v⟩,rfl,hv⟩
theorem Kg:∀(rows:List (List D)),(∀row∈rows,lZ 1048576 SI row)→∃q:List Wt,rows=q.map eK∧∀w∈q,cL (bB w.v)
 |[],_=>⟨[],rfl,λ_ h=>by cases h⟩
 |r :: rs,h=>by
  obtain ⟨w,rfl,hw⟩:=SV (h r (by simp));obtain ⟨q,rfl,hq⟩:=Kg rs (λy hy=>h y (by simp [hy]));exact ⟨w :: q,rfl,λx hx=>by
   rcases ae.1 hx with rfl | hx
   ·exact hw
   ·exact hq x hx⟩
theorem SX (h:lZ 1048576 Tf xs):∃o:Ob,xs=fA o∧ju 255 1048576 o:=by
 obtain ⟨_,_,rfl,h1,g1⟩:=dh h;obtain ⟨k,rfl,_⟩:=oJ h1;obtain ⟨_,_,rfl,h2,g2⟩:=dh g1;obtain ⟨l,rfl,hl⟩:=P2 h2;obtain ⟨_,_,rfl,h3,g3⟩:=dh g2;obtain ⟨v,rfl,hv⟩:=Lr h3;obtain ⟨_,_,rfl,h4,g4⟩:=dh g3;obtain ⟨ex,rfl⟩:=oK h4;obtain ⟨_,_,rfl,h5,g5⟩:=dh g4;obtain ⟨dn,rfl⟩:=oK h5;obtain ⟨_,_,rfl,h6,g6⟩:=dh g5;obtain ⟨_,_,rfl,a1,b1⟩:=dh h6;obtain ⟨full,rfl⟩:=oK a1;obtain ⟨_,_,rfl,a2,b2⟩:=dh b1;obtain ⟨u,rfl,hu⟩:=Lr a2;obtain ⟨_,_,rfl,a3,b3⟩:=dh b2;obtain ⟨rows,rfl,hn,hr⟩:=uw a3;obtain ⟨q,rfl,hq⟩:=Kg rows hr;cases nZ b3;obtain ⟨_,_,rfl,h7,g7⟩:=dh g6;obtain ⟨fu,rfl,_⟩:=oJ h7;obtain ⟨_,_,rfl,h8,g8⟩:=dh g7;obtain ⟨ma,hm,rfl⟩:=ux h8;cases nZ g8;exact ⟨⟨k,l,v,ex,dn,⟨full,u,q⟩,fu,ma⟩,rfl,⟨hl,hv,hu,hq,by rw [aL] at hn;exact hn,hm⟩⟩
theorem SY (h:lZ 1048576 PS xs):∃p:Int×Ob,xs=iw p∧uG 255 1048576 p:=by
 obtain ⟨_,_,rfl,h1,g1⟩:=dh h;obtain ⟨i,hi,rfl⟩:=ux h1;obtain ⟨_,_,rfl,h2,g2⟩:=dh g1;obtain ⟨o,rfl,ho⟩:=SX h2;cases nZ g2;exact ⟨(i,o),by show [D.int .u8 i]++(fA o ++ [])=_;rw [cO];rfl,⟨hi,ho⟩⟩
theorem wu:∀(rows:List (List D)),(∀row∈rows,lZ 1048576 PS row)→∃l:List (Int×Ob),rows=l.map iw∧∀p∈l,uG 255 1048576 p
 |[],_=>⟨[],rfl,λ_ h=>by cases h⟩
 |r :: rs,h=>by
  obtain ⟨w,rfl,hw⟩:=SY (h r (by simp));obtain ⟨q,rfl,hq⟩:=wu rs (λy hy=>h y (by simp [hy]));exact ⟨w :: q,rfl,λx hx=>by
   rcases ae.1 hx with rfl | hx
   ·exact hw
   ·exact hq x hx⟩
theorem P3 {rows:List (List D)} (h:lZ 1048576 (.sl PS) [.sl PS.n rows]):∃l:List (Int×Ob),rows=l.map iw∧(∀p∈l,uG 255 1048576 p)∧l.length≤1048576:=by
 obtain ⟨_,he,hn,hr⟩:=uw h;cases he;obtain ⟨l,rfl,hl⟩:=wu rows hr;exact ⟨l,rfl,hl,by rw [aL] at hn;exact hn⟩
theorem SW (h:lZ 1048576 Te xs):∃x:Gk,xs.map V.d=pC x∧xH x:=by
 obtain ⟨_,_,rfl,h1,g1⟩:=dh h;obtain ⟨a,ha,rfl⟩:=ux h1;obtain ⟨_,_,rfl,h2,g2⟩:=dh g1;obtain ⟨b,hb,rfl⟩:=ux h2;obtain ⟨_,_,rfl,h3,g3⟩:=dh g2;obtain ⟨c,hc,rfl⟩:=ux h3;obtain ⟨_,_,rfl,h4,g4⟩:=dh g3;obtain ⟨d,hd,rfl⟩:=ux h4;obtain ⟨_,_,rfl,h5,g5⟩:=dh g4;obtain ⟨e,he,rfl⟩:=ux h5;obtain ⟨_,_,rfl,h6,g6⟩:=dh g5;obtain ⟨f,hf,rfl⟩:=ux h6;cases nZ g6;exact ⟨⟨a,b,c,d,e,f⟩,rfl,⟨ha,hb,hc,hd,he,hf⟩⟩
end
theorem Lq {H:Type} {l:List (DataW H)} (hk:Rows.uptoSmall H l=true):Rows.uptoBulkAll l≤1048576:=of_decide_eq_true hk
end Go.Proofs.YtjpgfgajkjhonaaGreatDoor
namespace Go.Proofs.YtjpgfgajkjhonaaGreatDoor
open Go.Vx
set_option maxRecDepth 100000
structure JI (im:Im) (t:Th) (s:bq) (now:Int):Prop where
  st:St im t.c (bP t).fr (bP t).tr (dw im t.c (bP t).fr (bP t).tr)
  lf:t.c.fr.length<900000000
  ls:t.c.st.length<800000000
  q:uv s t.id
  ask:(dw im t.c (bP t).fr (bP t).tr).2.k=3→∃o f i F,dw im t.c (bP t).fr (bP t).tr=(t.c,⟨3,zeroV,o⟩)∧t.c.fr.getLast? = some f∧inf o.c=some i∧et t.c i.po=true∧(0≤f.pc∧f.pc<1000000000)∧Bk o.c F∧Nat.blt F 5000000=true ∧
    (∀{K:Out→H→Prop},(D4 (iU (kr im t now) o f i.po) s).K K→Sat Tryz.prog F [.p 0 0] (eM (iU (kr im t now) o f i.po) s) K)∧∀n c' s',D4 (iU (kr im t now) o f i.po) s = .ex n c' s'→uv s' c'.t.id
set_option maxHeartbeats 4000000 in
theorem NM {K : Out → H → Prop} (im : Im) (t : Th) (s : bq) (now : Int) (h : t.st = 0 → JI im t s now) (hk : ∀ b, K (.ret (.tu [eX (DH im t s now b).t, qY ((DH im t s now b).e.ef (DH im t s now b).d)])) (jn (DH im t s now b).s)) :
    Sat Tryz.prog 34 [wF im,eX t,.p 0 0,.d (.int .i64 now)] (jn s) K:=by
  unfold DH at hk
  by_cases h0:t.st=0
  · have hz:(t.st != 0)=false:=by simp [h0]
    rw [hz] at hk
    have hd:=h h0
    have h1:=vh t
    have h2:=hd.st
    have hq:=hd.q
    have hask:=hd.ask
    unfold St at h2
    generalize hr:dw im t.c (bP t).fr (bP t).tr=r at h2 hk hask
    obtain ⟨k,u⟩:=r
    by_cases k1:u.k=1
    · rw [show (u.k==1)=true by simp [k1]] at hk
      have h3:=λ{K:Out→H→Prop}=>nC (K:=K) (pv (kr im t now) k) s u.v false hq
      refine s34.go (keep:=false) rfl ?_
      repeat' ((conv=>whnf);first | exact zf | refine zm ?_ | refine zc h1 ?_ | refine zc h2 ?_ | refine (.inr ?_:(∃_,_)∨_) | refine (h3 ?_) | refine zt ?_ | refine zu ?_ | intro _)
      exact hk none
    · by_cases k2:u.k=2
      · rw [show (u.k==1)=false by simp [k1],show (u.k==2)=true by simp [k2]] at hk
        have h3:=λ{K:Out→H→Prop}=>nC (K:=K) (pv (kr im t now) k) s u.v true hq
        refine s34.go (keep:=false) rfl ?_
        repeat' ((conv=>whnf);first | exact zf | refine zm ?_ | refine zc h1 ?_ | refine zc h2 ?_ | refine (.inr ?_:(∃_,_)∨_) | refine (h3 ?_) | refine zt ?_ | refine zu ?_ | intro _)
        exact hk none
      · by_cases k3:u.k=3
        · rw [show (u.k == 1) = false by simp [k1], show (u.k == 2) = false by simp [k2], show (u.k == 3) = true by simp [k3]] at hk
          obtain ⟨o,f,i,F,e,hf,hi,hp,hpc,hF,hlt,hR,hx⟩:=hask k3
          cases e
          have h3:=λ{K:Out→H→Prop}=>LV (K:=K) (kr im t now) s o f i F _ hi hf hd.lf hd.ls hp hpc hF hlt hR hx
          replace hk:∀b,K (.ret (.tu [eX ((D4 (iU (kr im t now) o f i.po) s).fin t.c b).t,qY (((D4 (iU (kr im t now) o f i.po) s).fin t.c b).e.ef ((D4 (iU (kr im t now) o f i.po) s).fin t.c b).d)])) (jn ((D4 (iU (kr im t now) o f i.po) s).fin t.c b).s):=λb=>by
            have:=hk b
            unfold R0 at this
            rw [show (kr im t now).t.c.fr.getLast? = some f from hf,hi] at this
            exact this
          generalize D4 (iU (kr im t now) o f i.po) s=R at h3 hk
          cases R with
          |ok e g=>
            cases e
            all_goals
              refine s34.go (keep:=false) rfl ?_
              repeat' ((conv=>whnf);first | exact zf | refine zm ?_ | refine zc h1 ?_ | refine zc h2 ?_ | refine (.inr ?_:(∃_,_)∨_) | refine (h3 (λb=>?_)) | refine zt ?_ | refine zu ?_ | intro _)
              exact hk _
          |ex n c' s'=>
            have h4:=λ{K:Out→H→Prop} (g:K (.ret (.tu [])) (RU (kJ c' s' t.c n)))=>h3 (K:=K) g
            refine s34.go (keep:=false) rfl ?_
            repeat' ((conv=>whnf);first | exact zf | refine zm ?_ | refine zc h1 ?_ | refine zc h2 ?_ | refine (.inr ?_:(∃_,_)∨_) | refine (h4 ?_) | refine zt ?_ | refine zu ?_ | intro _)
            exact hk none
        · rw [show (u.k==1)=false by simp [k1],show (u.k==2)=false by simp [k2],show (u.k==3)=false by simp [k3]] at hk
          refine s34.go (keep:=false) rfl ?_
          repeat' ((conv=>whnf);first | exact zf | refine zm ?_ | refine zc h1 ?_ | refine zc h2 ?_ | refine zt ?_ | refine zu ?_ | intro _)
          exact hk none
  · have hz:(t.st != 0)=true:=by simp [h0]
    rw [hz] at hk
    refine s34.go (keep:=false) rfl ?_
    repeat' ((conv=>whnf);first | exact zf | refine zm ?_ | refine zt ?_ | refine zu ?_ | intro _)
    exact hk none
section
variable {im:Im} {c:Co} {fr tr:Int}
def Jo (k:Int):Bool:=(k==1)||((k==2)||((k==18)||((k==27)||((k==29)||((k==30)||((k==32)||((k==35)||(k==41))))))))
theorem A8 (h:Nx im c) {o:Op} (hf:fit im c=some o) (hs:Jo o.c=true):St im c fr tr (dw im c fr tr):=by
 unfold dw;rw [hf];obtain ⟨f,fn,hl,w1,hfn,w2,ho,hr,hop,hpo⟩:=mO hf;simp only [hl];obtain ⟨a1,a2⟩:=within_iff.1 w2;have:=h.cd _ _ hfn;have x:Cx im c fr tr o f fn:=⟨h.hI,hf,hl,⟨a1,by omega⟩,hop,hpo,h.lf,h.ls,h.lt⟩
 obtain ⟨k,oa⟩:=o;simp only [Jo,cP,beq_iff_eq] at hs;rcases hs with rfl | rfl | rfl | rfl | rfl | rfl | rfl | rfl | rfl
 ·exact Tp x
 ·exact To x
 ·exact Q6 x
 all_goals exact tN x (λ_=>rfl)
end
end Go.Proofs.YtjpgfgajkjhonaaGreatDoor
namespace Go.Proofs.YtjpgfgajkjhonaaGreatDoor
open Go.Vx
set_option maxRecDepth 100000
def eS:bq:=⟨[],[]⟩
abbrev SS:=Option Nat→Th×bq
def Qb (k:Int) (m:Lb) (v:Va):Ob:={ fG with k:=k,l:=m,v:=v }
theorem uM {key:List UInt8}:∀{l:List (List UInt8×Ob)} {i:Nat} {o:Ob},bN key l=some (i,o)→∃p∈l,p.2=o
 |[],_,_,h=>nomatch h
 |p :: r,i,o,h=>by
  unfold bN at h
  by_cases hb:key=p.1
  ·rw [if_pos hb] at h;cases h;exact ⟨p,bY ..,rfl⟩
  ·rw [if_neg hb] at h;cases hr:bN key r with
   |none=>rw [hr] at h;cases h
   |some q=>
    rw [hr] at h;obtain ⟨p',hp,he⟩:=uM (i:=q.1) (o:=q.2) (by rw [hr]);cases h;exact ⟨p',cM _ hp,he⟩
theorem nY {s:bq} {nm:List UInt8} (h:∀p∈s.th,p.2.va.q.length<100000000):uv s nm:=λi o ho=>by
 obtain ⟨p,hp,he⟩:=uM ho;rw [←he];exact h p hp
theorem UQ (a b:Lb):cL (dU a b):=⟨fk _,fk _⟩
theorem Dq:cr [3] = [51]:=by kernel_rfl
theorem xQ {c c':Ca} {s s':bq} {o:Ob} {n:Int} (h:qE c s o = .ex n c' s'):s'=s:=by
 unfold qE at h;cases hw:bR c.t.g o.l==0<;>rw [hw] at h
 ·cases h;rfl
 ·cases hr:decide (c.t.ro<1)<;>rw [hr] at h<;>cases h;rfl
theorem CC {c c':Ca} {s s':bq} {l:Lb} {n:Int} (h:lv c s l = .ex n c' s'):s'=s:=by
 unfold lv at h;cases hw:dM c.t.g l==0<;>rw [hw] at h<;>cases h;rfl
theorem Ax {k:Int} {c c':Ca} {s s':bq} {n:Int} (h:C9 k c s = .ex n c' s'):s'=s:=by
 unfold C9 at h;cases hw:bz [0,2] c.ar<;>rw [hw] at h
 ·cases h;rfl
 ·exact xQ h
theorem FA {c c':Ca} {s s':bq} {n:Int} (h:FB c s = .ex n c' s'):s'=s:=by
 unfold FB at h;cases hw:bz [2] c.ar<;>rw [hw] at h
 ·cases h;rfl
 ·exact xQ h
theorem CX {c c':Ca} {s s':bq} {n:Int} (h:n6 c s = .ex n c' s'):s'=s:=by
 unfold n6 at h;cases hw:bz [2] c.ar<;>rw [hw] at h
 ·cases h;rfl
 ·exact CC h
theorem H_ {c c':Ca} {s s':bq} {n:Int} (h:yy c s = .ex n c' s'):s'=s:=by
 unfold yy at h;cases hw:bz [0,2] c.ar<;>rw [hw] at h
 ·cases h;rfl
 ·cases hg:bR c.t.g (bB (c.ar[1]?.getD dR))==0<;>rw [hg] at h<;>cases h;rfl
theorem Ei {c c':Ca} {s s':bq} {n:Int} (h:rT c s = .ex n c' s'):s'=s:=by
  unfold rT at h
  cases hw:bz [3] c.ar<;>rw [hw] at h
  · cases h;rfl
  · rw [cond_true] at h
    unfold oQ at h
    cases ht:dM c.t.g (bB (c.ar[0]?.getD dR))==0<;>rw [ht] at h
    · cases h;rfl
    · rw [cond_true] at h
      split at h
      · unfold lV at h
        rename_i p o hp
        cases ho:o.ex<;>rw [ho] at h<;>cases h
        rfl
      · cases h
theorem yz {c c':Ca} {s s':bq} {n:Int} (h:D4 c s = .ex n c' s'):s'=s:=by
 unfold D4 at h;cases h1:c.o.c==27<;>rw [h1] at h
 ·cases h2:c.o.c==29<;>rw [h2] at h
  ·cases h3:c.o.c==30<;>rw [h3] at h
   ·cases h4:c.o.c==32<;>rw [h4] at h
    ·cases h5:c.o.c==35<;>rw [h5] at h
     ·cases h6:c.o.c==41<;>rw [h6] at h
      ·cases h;rfl
      ·exact H_ h
     ·exact FA h
    ·exact Ax h
   ·exact Ei h
  ·exact Ax h
 ·exact CX h
end Go.Proofs.YtjpgfgajkjhonaaGreatDoor
namespace Go.Proofs.YtjpgfgajkjhonaaGreatDoor
open Go.Vx
set_option maxRecDepth 100000
theorem Aw {p:List UInt8×Ob} (h:p∈eS.th):p.2.va.q.length<100000000:=nomatch h
theorem oU (n:Int):bJ Tryz.prog 21 [.d (.int .i64 n)] (jT (num n)):=by
 refine s21.go (keep:=false) rfl ?_
 repeat' ((conv=>whnf);first | exact zf | refine zm ?_ | intro _)
theorem Mz:bJ Tryz.prog 30 [] (jr ⟨[0],[]⟩):=by
 refine s30.go (keep:=false) rfl ?_
 repeat' ((conv=>whnf);first | exact zf | refine zm ?_ | intro _)
end Go.Proofs.YtjpgfgajkjhonaaGreatDoor
namespace Go.Proofs.YtjpgfgajkjhonaaGreatDoor
open Go.Vx
set_option maxRecDepth 100000
def B7 (c:Ca) (e:List V) (a:V) (s:Nat):List V:=
 [.nl 5,.nl 3,.p s 0,.d (.int .i64 c.now)]++(gR c.t).map .d ++ [.d (.int .i64 c.tr)]++e ++ [.d (.int .i64 c.o.c),.d (.int .i64 c.o.a),a,.d (.int .u8 c.ma)]
def UE (c:Ca) (s:bq):H:=.cells (B7 c [.nl 20,.nl 7,.nl 6,.nl 2,.d (.bool false)] (.nl 5) 1) :: [.cells [.mp 2,.mp 3],.dm (q8 s.th),.ms 1 (qA s.nm) none none]
def UD (p:Ca×Bool×bq):H:=.cells (B7 p.1 [.nl 20,.nl 7,.nl 6,.nl 2,.d (.bool p.2.1)] (.nl 5) 1) :: [.cells [.mp 2,.mp 3],.dm (q8 p.2.2.th),.ms 1 (qA p.2.2.nm) none none]
theorem DD {K:Out→H→Prop} (c:Ca) (s:bq) (v:Va) (ex:Bool) (hqa:∀i o,bN c.t.id s.th=some (i,o)→o.va.q.length<100000000) (hk:K (.ret (.tu [])) (UD (nN c s v ex))):Sat Tryz.prog 72 [.p 0 0,jT v,.d (.bool ex)] (UE c s) K:=by
 have h1:=pZ c.t v ex;have hid:(eH c.t v ex).id=c.t.id:=rfl;unfold nN at hk;generalize eH c.t v ex=t at h1 hid hk;rw [←hid] at hqa;have hq:(gb s t.id).va.q.length<100000000:=by
  unfold gb;cases hlk:bN t.id s.th with
  |none=>simp [fG,zH]
  |some p=>exact hqa p.1 p.2 hlk
 by_cases h30:t.st=3
 ·have hnot:¬(t.st≠3∧t.st≠4):=λh=>h.1 h30;simp only [hnot,if_false] at hk;have hg:=oh (K:=λout h=>out = .ret (.tu [fz (gb s t.id),.d (.bool (ke s t.id))])∧h=jn s) s t.id hq ⟨rfl,rfl⟩;unfold gb ke at hg;cases hlk:bN t.id s.th with
  |none=>
   rw [hlk] at hg hk;refine s72.go (keep:=false) rfl ?_
   repeat' ((conv=>whnf);first | exact zf | refine (bp (bw ?_):eQ _ (eQ (kG _ _ _ _ 16 _ _ _ _ _ _ _) _)) | refine zm ?_ | refine zc h1 ?_ | refine ⟨_,_,hg,?_⟩ | refine zt ?_ | refine zu ?_ | intro _)
   exact hk
  |some p=>
   obtain ⟨i,o⟩:=p;rw [hlk] at hg hk
   by_cases h6:o.k=6
   ·have hset:=λ{K:Out→H→Prop}=>lB (K:=K) s t.id i { o with v:=v,ex:=ex,dn:=true } o hlk rfl rfl (hqa i o hlk);dsimp only at hk;rw [if_pos h6] at hk;refine s72.go (keep:=false) rfl ?_
    repeat' ((conv=>whnf);first | exact zf | refine (bp (bw ?_):eQ _ (eQ (kG _ _ _ _ 16 _ _ _ _ _ _ _) _)) | refine zm ?_ | refine zc h1 ?_ | refine ⟨_,_,hg,?_⟩ | refine (.inr ?_:(∃_,_)∨_) | refine (hset ?_) | refine zt ?_ | refine zu ?_ | intro _)
    exact hk
   ·simp only [h6,if_false] at hk;refine s72.go (keep:=false) rfl ?_
    repeat' ((conv=>whnf);first | exact zf | refine (bp (bw ?_):eQ _ (eQ (kG _ _ _ _ 16 _ _ _ _ _ _ _) _)) | refine zm ?_ | refine zc h1 ?_ | refine ⟨_,_,hg,?_⟩ | refine zt ?_ | refine zu ?_ | intro _)
    exact hk
 ·by_cases h3:t.st=4
  ·have hnot:¬(t.st≠3∧t.st≠4):=λh=>h.2 h3;simp only [hnot,if_false] at hk;have hg:=oh (K:=λout h=>out = .ret (.tu [fz (gb s t.id),.d (.bool (ke s t.id))])∧h=jn s) s t.id hq ⟨rfl,rfl⟩;unfold gb ke at hg;cases hlk:bN t.id s.th with
   |none=>
    rw [hlk] at hg hk;refine s72.go (keep:=false) rfl ?_
    repeat' ((conv=>whnf);first | exact zf | refine (bp (bw ?_):eQ _ (eQ (kG _ _ _ _ 16 _ _ _ _ _ _ _) _)) | refine zm ?_ | refine zc h1 ?_ | refine ⟨_,_,hg,?_⟩ | refine zt ?_ | refine zu ?_ | intro _)
    exact hk
   |some p=>
    obtain ⟨i,o⟩:=p;rw [hlk] at hg hk
    by_cases h6:o.k=6
    ·have hset:=λ{K:Out→H→Prop}=>lB (K:=K) s t.id i { o with v:=v,ex:=ex,dn:=true } o hlk rfl rfl (hqa i o hlk);dsimp only at hk;rw [if_pos h6] at hk;refine s72.go (keep:=false) rfl ?_
     repeat' ((conv=>whnf);first | exact zf | refine (bp (bw ?_):eQ _ (eQ (kG _ _ _ _ 16 _ _ _ _ _ _ _) _)) | refine zm ?_ | refine zc h1 ?_ | refine ⟨_,_,hg,?_⟩ | refine (.inr ?_:(∃_,_)∨_) | refine (hset ?_) | refine zt ?_ | refine zu ?_ | intro _)
     exact hk
    ·simp only [h6,if_false] at hk;refine s72.go (keep:=false) rfl ?_
     repeat' ((conv=>whnf);first | exact zf | refine (bp (bw ?_):eQ _ (eQ (kG _ _ _ _ 16 _ _ _ _ _ _ _) _)) | refine zm ?_ | refine zc h1 ?_ | refine ⟨_,_,hg,?_⟩ | refine zt ?_ | refine zu ?_ | intro _)
     exact hk
  ·have hyes:t.st≠3∧t.st≠4:=⟨h30,h3⟩
   rw [if_pos hyes] at hk;refine s72.go (keep:=false) rfl ?_
   repeat' ((conv=>whnf);first | exact zf | refine zm ?_ | refine zc h1 ?_ | refine zt ?_ | refine zu ?_ | intro _)
   exact hk
theorem E3 {K:Out→H→Prop} (c:Ca) (s:bq) (k:Co) (code:Int) (hf:k.fr.length<1000000000) (hst:k.st.length<1000000000) (hqa:∀i o,bN c.t.id s.th=some (i,o)→o.va.q.length<100000000) (hk:K (.ret (.tu [])) (UD (kJ c s k code))) :
  Sat Tryz.prog 75 [.p 0 0,gN k,.d (.int .i64 code)] (UE c s) K:=by
 have h1:=qc k code c.tr hf hst;unfold kJ at hk;generalize raise k code c.tr=r at h1 hk;have h2:=λ{K:Out→H→Prop}=>DD (K:=K) { c with t:={ c.t with c:=r.1 } } s r.2.v true hqa;cases hb:r.2.k==2 with
 |true=>
  simp only [hb,cond_true] at hk;refine s75.go (keep:=false) rfl ?_
  repeat' ((conv=>whnf);first | exact zf | refine zm ?_ | refine zc h1 ?_ | refine (.inr ?_:(∃_,_)∨_) | refine (h2 ?_) | refine zt ?_ | refine zu ?_ | intro _)
  exact hk
 |false=>
  simp only [hb,cond_false] at hk;refine s75.go (keep:=false) rfl ?_
  repeat' ((conv=>whnf);first | exact zf | refine zm ?_ | refine zc h1 ?_ | refine zt ?_ | refine zu ?_ | intro _)
  exact hk
def CT (t:Th) (s:bq) (n:Int):Rs:=Gu (kJ (kr ⟨[],[]⟩ (l9 t []) 0) s (l9 t []).c n)
set_option maxHeartbeats 4000000 in
theorem EU {K:Out→H→Prop} (t:Th) (s:bq) (v:Va) (hf:t.c.fr.length<1000000000) (hst:t.c.st.length<1000000000) (hq:uv s t.id) (hk:K (.ret (.tu [eX (CT t s v.n).t,qY ((CT t s v.n).e.ef (CT t s v.n).d)])) (jn (CT t s v.n).s)) :
  Sat Tryz.prog 36 [eX t,.p 0 0,jT v,.d (.bool true)] (jn s) K:=by
 have h1:=vh t;have h2:=Dj t [] (by decide) hst;have h3:=λ{K:Out→H→Prop}=>E3 (K:=K) (kr ⟨[],[]⟩ (l9 t []) 0) s (l9 t []).c v.n hf (by show (t.c.st ++ []).length<_;rw [cO];exact hst) hq;refine s36.go (keep:=false) rfl ?_
 repeat' ((conv=>whnf);first | exact zf | refine (dp (dp ?_)) | refine zm ?_ | refine zc h1 ?_ | refine zc h2 ?_ | refine (.inr ?_:(∃_,_)∨_) | refine (h3 ?_) | refine zt ?_ | refine zu ?_ | refine And.intro ?_ ?_ | intro _)
 all_goals exact hk
end Go.Proofs.YtjpgfgajkjhonaaGreatDoor
namespace Go.Proofs.YtjpgfgajkjhonaaGreatDoor
open Go.Vx
set_option maxRecDepth 100000
def a1:Lb:=⟨[1],[]⟩
def zi:Lb:=⟨[0],[]⟩
def UB:List Op:=[⟨2,0⟩,⟨1,0⟩,⟨29,0⟩,⟨30,0⟩,⟨1,1⟩,⟨41,0⟩,⟨2,0⟩,⟨18,0⟩]
def o7:Im:=⟨[qC a1,qC nL],[⟨1,0,UB⟩]⟩
def vr (pc:Int) (st:List Va):Co:=⟨[⟨0,pc,0,0,[num 5]⟩],st,[]⟩
def Li:Th:=xK [48] ⟨nL,zi⟩ (vr 0 []) 1
def tK (b:Option Nat):bq:=qZ eS [0,0] (Qb 3 a1 (num 5)) b
def Ss:Va:=⟨3,0,cr [0,0],[1],[]⟩
def S9:Nat→SS
 |0=>λ_=>(Li,eS)
 |1=>λ_=>({ Li with c:=vr 1 [num 5] },eS)
 |2=>λ_=>({ Li with c:=vr 2 [num 5,qC a1] },eS)
 |3=>λb=>({ Li with c:=vr 3 [Ss],ma:=1,ro:=0 },tK b)
 |4=>λb=>({ Li with c:=vr 4 [num 5],ma:=1,ro:=0,g:=⟨a1,zi⟩ },tK b)
 |_=>λb=>({ Li with c:=vr 5 [num 5,qC nL],ma:=1,ro:=0,g:=⟨a1,zi⟩ },tK b)
def u9 (b:Option Nat):Th×bq:=({ Li with c:=vr 5 [num 5,qC nL],ma:=1,ro:=0,g:=⟨a1,zi⟩,st:=4,v:=num (-3),ex:=true },tK b)
theorem do9_0 (now:Int) (b b':Option Nat):DH o7 (S9 0 b).1 (S9 0 b).2 now b'=⟨(S9 1 b).1,.no,false,(S9 1 b).2⟩:=by rfl
theorem do9_1 (now:Int) (b b':Option Nat):DH o7 (S9 1 b).1 (S9 1 b).2 now b'=⟨(S9 2 b).1,.no,false,(S9 2 b).2⟩:=by rfl
theorem do9_2 (now:Int) (b b':Option Nat):DH o7 (S9 2 b).1 (S9 2 b).2 now b'=⟨(S9 3 b').1,.no,false,(S9 3 b').2⟩:=by kernel_rfl
theorem do9_3 (now:Int) (b b':Option Nat):DH o7 (S9 3 b).1 (S9 3 b).2 now b'=⟨(S9 4 b).1,.no,false,(S9 4 b).2⟩:=by kernel_rfl
theorem do9_4 (now:Int) (b b':Option Nat):DH o7 (S9 4 b).1 (S9 4 b).2 now b'=⟨(S9 5 b).1,.no,false,(S9 5 b).2⟩:=by kernel_rfl
theorem do9_5 (now:Int) (b b':Option Nat):DH o7 (S9 5 b).1 (S9 5 b).2 now b'=⟨(u9 b).1,.no,true,(u9 b).2⟩:=by kernel_rfl
theorem do9_6 (now:Int) (b b':Option Nat):DH o7 (u9 b).1 (u9 b).2 now b'=⟨(u9 b).1,.no,false,(u9 b).2⟩:=by rfl
theorem SZ (b:Option Nat):CT ⟨[49],[],Qe,c00,[],0,0,1,[48],dR,false⟩ (tK b) 3=⟨⟨[49],[],Qe,c00,[],0,0,4,[],num 3,true⟩,.no,true,tK b⟩:=by kernel_rfl
theorem U8 (i:Nat) (hi:i<5) (now:Int) (b b':Option Nat):∃b'',DH o7 (S9 i b).1 (S9 i b).2 now b'=⟨(S9 (i+1) b'').1,.no,false,(S9 (i+1) b'').2⟩:=by
 match i,hi with
 |0,_=>exact ⟨b,do9_0 now b b'⟩
 |1,_=>exact ⟨b,do9_1 now b b'⟩
 |2,_=>exact ⟨b',do9_2 now b b'⟩
 |3,_=>exact ⟨b,do9_3 now b b'⟩
 |4,_=>exact ⟨b,do9_4 now b b'⟩
theorem Q7 (pc:Int) (st:List Va) (hst:st.length≤3) (hsm:∀v∈st,cL (bB v)) (o:Op) (hfit:fit o7 (vr pc st)=some o) (ho:o.c≠24∧o.c≠31):Nx o7 (vr pc st) where
 hI:=⟨λi g hg=>by
  match i,hg with
  |0,hg=>cases hg;exact (show eN .i64 1 from ⟨by decide,by decide⟩)⟩
 cd:=λi g hg=>by
  match i,hg with
  |0,hg=>
   cases hg;exact (show UB.length<1000000000 by decide)
 lf:=show 1<_ by decide
 ls:=by show st.length<_;omega
 lt:=show 0<_ by decide
 ma:=λf hf=>by cases hf;exact (show ((0:Int)≤0∧(0:Int)≤255)∧[num 5].length<1000000000 from ⟨⟨by decide,by decide⟩,by decide⟩)
 sm:=hsm
 dm:=λo' h'=>by rw [hfit] at h';cases h';exact ho
theorem M7 (pc:Int) (st:List Va) (o:Op) {t:Th} {s:bq} {now:Int} (ht:t.c=vr pc st) (hsc:t.sc = []) (hst:st.length≤3) (hsm:∀v∈st,cL (bB v)) (hfit:fit o7 (vr pc st)=some o) (ho:o.c≠24∧o.c≠31) (hfw:Jo o.c=true)
  (hr:(dw o7 (vr pc st) 0 0).2.k≠3) (hq:∀p∈s.th,p.2.va.q.length<100000000):JI o7 t s now:=by
 have e:bP t=Ew:=by unfold bP;rw [hsc];rfl
 refine ⟨by rw [ht];exact A8 (Q7 pc st hst hsm o hfit ho) hfit hfw,by rw [ht];exact (show 1<_ by decide),by rw [ht];show st.length<_;omega,nY hq,λh=>?_⟩;rw [ht,e] at h;exact absurd h hr
theorem M8 (pc:Int) (st:List Va) (o:Op) {t:Th} {s:bq} {now:Int} (ht:t.c=vr pc st) (hst:st.length≤3) (hsm:∀v∈st,cL (bB v)) (hfit:fit o7 (vr pc st)=some o) (ho:o.c≠24∧o.c≠31) (hfw:Jo o.c=true)
  (hq:∀p∈s.th,p.2.va.q.length<100000000) (h:(dw o7 t.c (bP t).fr (bP t).tr).2.k=3→∃o f i F,dw o7 t.c (bP t).fr (bP t).tr=(t.c,⟨3,zeroV,o⟩)∧t.c.fr.getLast? = some f∧inf o.c=some i∧et t.c i.po=true∧(0≤f.pc∧f.pc<1000000000)∧Bk o.c F∧Nat.blt F 5000000=true ∧
  (∀{K:Out→H→Prop},(D4 (iU (kr o7 t now) o f i.po) s).K K→Sat Tryz.prog F [.p 0 0] (eM (iU (kr o7 t now) o f i.po) s) K)∧∀n c' s',D4 (iU (kr o7 t now) o f i.po) s = .ex n c' s'→uv s' c'.t.id):JI o7 t s now:=
 ⟨by rw [ht];exact A8 (Q7 pc st hst hsm o hfit ho) hfit hfw,by rw [ht];exact (show 1<_ by decide),by rw [ht];show st.length<_;omega,nY hq,h⟩
theorem Ri:cL (bB (num 5)):=⟨show 0≤_ by decide,show 0≤_ by decide⟩
theorem P1:cL a1:=⟨show 1≤_ by decide,show 0≤_ by decide⟩
theorem Rh:cL nL:=⟨show 0≤_ by decide,show 0≤_ by decide⟩
theorem SP:cL zi:=⟨show 1≤_ by decide,show 0≤_ by decide⟩
theorem zD {b:Option Nat}:∀p∈(tK b).th,p.2.va.q.length<100000000:=λp hp=>by
 rw [aO.1 hp];exact (show (0:Nat)<100000000 by decide)
theorem SK:cr [0] = [48]:=by kernel_rfl
theorem U3 (q:Ca) (h1:q.t.pa = [48]) (h2:q.t.ma=0) (h3:q.t.ro=1) (h4:q.t.g=⟨nL,zi⟩) (h5:q.t.c.st.length<1000000000):M5 q eS (Qb 3 a1 (num 5)):=by
 have hu:jt q.t.pa 0 = [0]:=by rw [h1];rfl
 refine ⟨⟨?_,?_,?_,?_,?_,?_,?_⟩,?_,P1,⟨by decide,λ_ h=>nomatch h⟩,by decide,by decide,by kernel_rfl,show (0:Nat)<_ by decide,rfl,h5⟩
 ·rw [hu,h1,SK]
 ·rw [hu];decide
 ·rw [hu];decide
 ·rw [hu];decide
 ·rw [h2];decide
 ·rw [h2];decide
 ·rw [h3];decide
 ·rw [h4];exact ⟨Rh,SP⟩
theorem m1 {v:Va} (h:cL (bB v)):∀x∈[v],cL (bB x):=λx hx=>by rw [aO.1 hx];exact h
theorem m2 {v w:Va} (h:cL (bB v)) (h':cL (bB w)):∀x∈[v,w],cL (bB x):=λx hx=>by
 simp only [ae,cT,or_false] at hx;rcases hx with rfl | rfl
 ·exact h
 ·exact h'
theorem Ts (i:Nat) (hi:i<6) (now:Int) (b:Option Nat):JI o7 (S9 i b).1 (S9 i b).2 now:=by
 match i,hi with
 |0,_=>exact M7 0 [] ⟨2,0⟩ rfl rfl (by decide) (λ_ h=>nomatch h) rfl ⟨by decide,by decide⟩ rfl (show (0:Int)≠3 by decide) λ_ h=>Aw h
 |1,_=>exact M7 1 [num 5] ⟨1,0⟩ rfl rfl (show 1≤3 by decide) (m1 Ri) rfl ⟨by decide,by decide⟩ rfl (show (0:Int)≠3 by decide) λ_ h=>Aw h
 |2,_=>exact M8 2 [num 5,qC a1] ⟨29,0⟩ rfl (show 2≤3 by decide) (m2 Ri P1) rfl ⟨by decide,by decide⟩ rfl (λ_ h=>Aw h) λ_=>⟨⟨29,0⟩,⟨0,2,0,0,[num 5]⟩,_,174,rfl,rfl,rfl,rfl,⟨by decide,by decide⟩,⟨_,rfl⟩,rfl,
  λh=>Cb _ _ (num 5) (qC a1) rfl (U3 _ rfl rfl rfl rfl (show 0<_ by decide)) h,λn c' s' h=>by rw [yz h];exact nY λ_ h=>Aw h⟩
 |3,_=>exact M8 3 [Ss] ⟨30,0⟩ rfl (show 1≤3 by decide) (m1 P1) rfl ⟨by decide,by decide⟩ rfl zD λ_=>⟨⟨30,0⟩,⟨0,3,0,0,[num 5]⟩,_,175,rfl,rfl,rfl,rfl,⟨by decide,by decide⟩,⟨_,rfl⟩,rfl,
  λh=>Aq _ _ Ss rfl (show 0<_ by decide) ⟨Rh,SP⟩ P1 (UQ _ _) (nY zD) h,λn c' s' h=>by rw [yz h];exact nY zD⟩
 |4,_=>exact M7 4 [num 5] ⟨1,1⟩ rfl rfl (show 1≤3 by decide) (m1 Ri) rfl ⟨by decide,by decide⟩ rfl (show (0:Int)≠3 by decide) zD
 |5,_=>exact M8 5 [num 5,qC nL] ⟨41,0⟩ rfl (show 2≤3 by decide) (m2 Ri Rh) rfl ⟨by decide,by decide⟩ rfl zD λ_=>⟨⟨41,0⟩,⟨0,5,0,0,[num 5]⟩,_,185,rfl,rfl,rfl,rfl,⟨by decide,by decide⟩,⟨_,rfl⟩,rfl,
  λh=>Eg _ _ (num 5) (qC nL) rfl ⟨P1,SP⟩ Rh h,λn c' s' h=>by rw [yz h];exact nY zD⟩
end Go.Proofs.YtjpgfgajkjhonaaGreatDoor
namespace Go.Proofs.YtjpgfgajkjhonaaGreatDoor
open Go.Vx
set_option maxRecDepth 100000
def U6 (p:Th×bq):H:=
  [.cells [.d (.str [1]), .d (.str [])], .cells [.d (.sl 5 (o7.cs.map cE)), .d (.sl 3 (o7.fs.map da))], .cells [.d (.sl 5 ((vr 0 []).fr.map bQ)), .d (.sl 5 ((vr 0 []).st.map cE)), .d (.sl 3 ((vr 0 []).tr.map eC))],
   .cells ((gR p.1).map .d),.cells [.mp 5,.mp 6],.dm (q8 p.2.th),.ms 1 (qA p.2.nm) none none]
theorem do34_9 {K:Out→H→Prop} (i:Nat) (hi:i<5) (b:Option Nat) (hk:∀b'',K (.ret (.tu [eX (S9 (i+1) b'').1,qY (Fx.ef .no false)])) (jn (S9 (i+1) b'').2)):Sat Tryz.prog 34 [wF o7,eX (S9 i b).1,.p 0 0,.d (.int .i64 i)] (jn (S9 i b).2) K:=by
 refine NM o7 _ _ i (λ_=>Ts i (by omega) i b) λb'=>?_;obtain ⟨b'',e⟩:=U8 i hi i b b';rw [e];exact hk b''
theorem do34_5 {K:Out→H→Prop} (b:Option Nat) (hk:K (.ret (.tu [eX (u9 b).1,qY (Fx.ef .no true)])) (jn (tK b))):Sat Tryz.prog 34 [wF o7,eX (S9 5 b).1,.p 0 0,.d (.int .i64 9)] (jn (tK b)) K:=by
 refine NM o7 (S9 5 b).1 (S9 5 b).2 9 (λ_=>Ts 5 (by omega) 9 b) λb'=>?_;rw [do9_5];exact hk
theorem do34_6 {K:Out→H→Prop} (b:Option Nat) (hk:K (.ret (.tu [eX (u9 b).1,qY (Fx.ef .no false)])) (jn (tK b))):Sat Tryz.prog 34 [wF o7,eX (u9 b).1,.p 0 0,.d (.int .i64 9)] (jn (tK b)) K:=by
 refine NM o7 (u9 b).1 (u9 b).2 9 (λh=>absurd h (show ¬(4:Int)=0 by decide)) λb'=>?_;rw [do9_6];exact hk
def SN:Th:=⟨[49],[],Qe,c00,[],0,0,1,[48],dR,false⟩
theorem Pb {K:Out→H→Prop} (b:Option Nat) (hk:K (.ret (.tu [eX ⟨[49],[],Qe,c00,[],0,0,4,[],num 3,true⟩,qY (Fx.ef .no true)])) (jn (tK b))):Sat Tryz.prog 36 [eX SN,.p 0 0,jT (num 3),.d (.bool true)] (jn (tK b)) K:=by
 refine EU SN (tK b) (num 3) (by decide) (by decide) (nY zD) ?_;rw [show CT SN (tK b) (num 3).n=_ from SZ b];exact hk
theorem K_ (b:Option Nat):bN [48,46,48] (tK b).th=some (0,Qb 3 a1 (num 5)):=by kernel_rfl
theorem Sw {K:Out→H→Prop} (b:Option Nat) (hk:K (.ret (.tu [fz (Qb 3 a1 (num 5)),.d (.bool true)])) (jn (tK b))):Sat Tryz.prog 16 [.p 0 0,.d (.str [48,46,48])] (jn (tK b)) K:=by
 have e:gb (tK b) [48,46,48]=Qb 3 a1 (num 5):=by unfold gb;rw [K_];rfl
 have e2:ke (tK b) [48,46,48]=true:=by unfold ke;rw [K_];rfl
 refine oh (tK b) [48,46,48] (by rw [e];decide) ?_;rw [e,e2];exact hk
set_option maxHeartbeats 4000000 in
theorem DF:bJ Tryz.prog 9 [] (.d (.bool true)):=by
 have e20:bJ Tryz.prog 20 [gN c00,.d (.int .i64 0),.d (.int .i64 0),.d (.sl 5 ([num 5].map cE)),.d (.int .u8 0)] (.tu [gN (vr 0 []),.d (.bool true)]):=kB c00 0 0 [num 5] 0 (by decide) (by decide);refine s9.go (keep:=false) rfl ?_
 repeat' ((conv=>whnf);first | exact zf | refine zm ?_ | refine zc (oU 5) ?_ | refine zc e20 ?_ | refine zc Mz ?_ | refine zc (FC [48] ⟨nL,zi⟩ (vr 0 []) 1) ?_ | refine (Ky ?_) | intro _)
 conv=>whnf
 refine bV [(1,.p 0 0),(2,.p 1 0),(5,.p 3 0),(6,.p 4 0)] (λq:Nat×Option Nat=>q.1≤5) (λq=>[(7,.d (.int .i64 0)),(8,.d (.int .i64 q.1))]) (λq=>U6 (S9 q.1 q.2)) (λq=>5 - q.1) (0,none) (ak _) ?_ ?_ ?_ (λq hq=>?_)
 ·exact zzz
 ·exact zzz
 ·exact (by kernel_rfl)
 obtain ⟨i,b⟩:=q;have hq:i≤5:=hq
 by_cases hi:i<5
 ·skip
  repeat' ((conv=>whnf);first | exact zf | refine zm ?_ | refine (.inr ?_:(∃_,_)∨_) | refine (do34_9 i hi b (λb''=>?_)) | refine zt ?_ | refine zu ?_ | intro _)
  exact ⟨(i+1,b''),hi,(by show 5 - (i+1)<5 - i;omega),zzz,zzz,rfl⟩
 ·have hi5:i=5:=by omega
  subst hi5
  repeat' ((conv=>whnf);first | exact zf | refine zm ?_ | refine ⟨cE (num 5),⟨by omega,rfl,rfl⟩,?_⟩ | refine (.inr ?_:(∃_,_)∨_) | refine (Sw b ?_) | refine (do34_5 b ?_) | refine (do34_6 b ?_) | refine (Pb b ?_) | refine zc (oU 3) ?_ | refine zc (oU 5) ?_ | refine zc (oU (-3)) ?_ | refine zt ?_ | refine zu ?_ | intro _)
end Go.Proofs.YtjpgfgajkjhonaaGreatDoor
namespace Go.Proofs.YtjpgfgajkjhonaaGreatDoor
open Go.Vx
set_option maxRecDepth 100000
section
variable {mx:Int} {q n:Nat} {t:Th} {s:bq} {now:Int} {b:Option Nat}
end
end Go.Proofs.YtjpgfgajkjhonaaGreatDoor
namespace Go.Proofs.YtjpgfgajkjhonaaGreatDoor
open Go.Vx
set_option maxRecDepth 100000
section
variable {mx:Int} {q n:Nat} {t:Th} {s:bq} {now:Int} {b:Option Nat}
theorem lT.id {ma:Int} {e:Fx} {t':Th} {s':bq} (D:lT now mx q n t ma s b e t' s'):t'.id=t.id:=by cases D<;>rfl
end
end Go.Proofs.YtjpgfgajkjhonaaGreatDoor
namespace Go.Proofs.YtjpgfgajkjhonaaGreatDoor
open Go.Vx
set_option maxRecDepth 100000
def rb (d:List Op):Prop:=∀o∈d,o.c≠24∧o.c≠31
theorem j6 {a b:List Op} (ha:rb a) (hb:rb b):rb (a++b):=λo ho=>(aT.1 ho).elim (ha o) (hb o)
theorem eL {c a:Int} {b:List Op} (h:c≠24∧c≠31) (hb:rb b):rb (⟨c,a⟩ :: b):=λo ho=>by
 rcases ae.1 ho with e | e
 ·rw [e];exact h
 ·exact hb o e
theorem g_:rb []:=λo ho=>by cases ho
theorem KZ.low {h h':Int} {d:List Op} (H:KZ h d h'):rb d:=by
 induction H with
 |nil=>exact g_
 |cons _ hc _ _ _ _ ih=>
  refine eL ⟨?_,?_⟩ ih
  ·rintro rfl;cases hc
  ·rintro rfl;cases hc
theorem ti.low {d:List Op} (h:ti d):rb d:=by
 rcases h with h | ⟨n,_,_,rfl⟩
 ·exact h.1.low
 ·exact eL ⟨by decide,by decide⟩ (eL ⟨by decide,by decide⟩ g_)
theorem Part.low {b:Int} {p:List Op} (h:Part b p):rb p:=by
 obtain ⟨d,hd,h⟩:=h;have l:=hd.low;rcases h with rfl | rfl | ⟨_,rfl⟩ | ⟨_,rfl⟩
 ·exact l
 ·exact j6 (eL ⟨by decide,by decide⟩ (eL ⟨by decide,by decide⟩ g_)) l
 ·exact j6 (j6 (eL ⟨by decide,by decide⟩ g_) l) (eL ⟨by decide,by decide⟩ g_)
 ·exact j6 (j6 (eL ⟨by decide,by decide⟩ g_) l) (eL ⟨by decide,by decide⟩ (eL ⟨by decide,by decide⟩ (eL ⟨by decide,by decide⟩ g_)))
theorem mU.low {c:List Op} {k:Nat} (h:mU c k):rb c∧c.length≤12*k:=by
 induction h with
 |nil=>exact ⟨g_,ak _⟩
 |snoc _ hp ih=>exact ⟨j6 ih.1 hp.low,by have:=ih.2;have:=hp.len;rw [aK];omega⟩
theorem pf.low {f:Fn} (h:pf f):rb f.code∧f.code.length≤146:=by
 obtain ⟨_,_,p,k,n,hp,_,hk,_,_,e⟩:=h;rw [e];refine ⟨j6 hp.low.1 (eL ⟨by decide,by decide⟩ (eL ⟨by decide,by decide⟩ g_)),?_⟩;have:=hp.low.2;rw [aK];show _+2≤_;omega
theorem J_:∀v∈KA,cL (bB v):=by
 intro v hv;rcases aT.1 hv with h | h
 ·obtain ⟨x,_,rfl⟩:=b9.1 h;exact gD x
 ·obtain ⟨x,hx,rfl⟩:=b9.1 h;have h2:x.s.length≤2∧x.i.length≤2:=by
   have:tT.all (λl=>decide (l.s.length≤2)&&decide (l.i.length≤2))=true:=by kernel_rfl
   have:=aR.1 this x hx;simpa using this
  exact And.intro (aY h2.1 (by decide)) (aY h2.2 (by decide))
theorem wJ.pr {im:Im} (h:wJ im):vL im where
 hI:=⟨λi g hg=>by rw [(h.2.2 g (aH hg)).1];unfold eN;decide⟩
 ar:=λg hg=>by rw [(h.2.2 g hg).1];decide
 cd:=λg hg=>by have:=(h.2.2 g hg).low.2;omega
 dm:=λg hg=>(h.2.2 g hg).low.1
 cs:=by rw [h.1];exact J_
end Go.Proofs.YtjpgfgajkjhonaaGreatDoor
namespace Go.Proofs.YtjpgfgajkjhonaaGreatDoor
open Go.Vx
set_option maxRecDepth 100000
theorem Ha {K:Out→H→Prop} {mx:Int} {q n:Nat} (im:Im) (t:Th) (s:bq) (now:Int) (hP:vL im) (ht:gZ mx n t) (hs:gw mx q n s) (h0:0≤mx) (hx:mx≤255) (hn:n<40000000) (hq:q<80000000) (hw:0≤now∧now<1000000000)
  (hk:∀b b',K (.ret (qY ((oH im now b b' t s).e.ef (oH im now b b' t s).d))) (yQ im (oH im now b b' t s).t (oH im now b b' t s).s)) :
  Sat Tryz.prog 12 [.p 0 0,.d (.int .i64 now)] (yQ im t s) K:=by
 have h1:=λb=>nj (now:=now) ht hs h0 b;refine Hc im t s now ht.g.1 (by have:=ht.sl;omega) (by have:=ht.co.st;omega) (λsc hsc=>(ht.sc sc hsc).Ti) ⟨by have:=hs.nm;omega,λp hp=>⟨by have:=(hs.ns p hp).1;omega,(hs.ns p hp).2⟩⟩ (λb _=>?_) hk;exact (h1 b).1.T hP (h1 b).2 hx hw (by omega) (by omega)
theorem Hb {K:Out→H→Prop} {mx:Int} {q n:Nat} (im:Im) (t:Th) (s:bq) (now:Int) (hP:vL im) (ht:gZ mx n t) (hs:gw mx q n s) (h0:0≤mx) (hx:mx≤255) (hn:n<40000000) (hq:q<80000000) (hw:0≤now∧now<1000000000)
  (hk:∀b b' r E,r=oH im now b b' t s→E=r.e.ef r.d→K (.ret (qY E)) (yQ im r.t r.s)) :
  Sat Tryz.prog 12 [.p 0 0,.d (.int .i64 now)] (yQ im t s) K:=
 Ha im t s now hP ht hs h0 hx hn hq hw λb b'=>hk b b' _ _ rfl rfl
theorem RH (e:Fx) (d:Bool):(e.ef d).dn=d:=by cases e<;>rfl
def SG (im:Im) (x:Gk) (t:Th) (s:bq):H:=[.cells (pC x),.cells ([.d (.sl 5 (im.cs.map cE)),.d (.sl 3 (im.fs.map da)),.p 2 0]++(gR t).map .d),.cells [.mp 3,.mp 4],.dm (q8 s.th),.ms 1 (qA s.nm) none none]
theorem FV (i:Int):cL ((gE[i.toNat]?).getD nL):=by
 cases h:gE[i.toNat]? with
 |none=>exact lA
 |some l=>exact vX l (aH h)
theorem KU (ar:Int):cL (bB (lS ar)):=by
 unfold lS;cases decide (60<ar)
 ·exact lA
 ·exact FV _
theorem N2 (mx:Int) (x:Gk) (hx:xH x) (hm:x.mz.tmod 4≤mx):gZ mx 1 (td x) where
 co:=by
  have hm2:x.mz.tmod 4=x.mz % 4:=bE hx.mz.1;exact ((okCo_0 mx 0).enter rfl (x.fn.tmod 3) 7 [lS x.ar] (x.mz.tmod 4) (show 1≤20 by decide) (λv hv=>by rw [aO.1 hv];exact KU _) (by omega)).mono (ak _)
 g:=And.intro (FV _) (oI _ _)
 pa:=⟨[3],Dq.symm,by decide,by decide,jK _,by
  have hr:x.ro.tmod 16=x.ro % 16:=bE hx.ro.1;show 0≤x.ro.tmod 16;rw [hr];omega,by
  have hr:x.ro.tmod 16=x.ro % 16:=bE hx.ro.1;show 0+x.ro.tmod 16≤15;rw [hr];omega,by
  have hr:x.ro.tmod 16=x.ro % 16:=bE hx.ro.1;show ((1:Nat):Int)+x.ro.tmod 16≤16;rw [hr];omega⟩
 sc:=λs hs=>by cases hs
 sl:=ak _
 v:=l_
def u3 (l:Lb):Ob:={ fG with k:=6,l:=l }
theorem Qr {s:bq} (h:∀p∈s.th,p.1∈gS):bN [51] s.th=none:=by
 cases hl:bN [51] s.th with
 |none=>rfl
 |some p=>
  obtain ⟨i,o⟩:=p;have h1:=h _ (aH (BH hl));have:([51]:List UInt8)∉gS:=by decide
  exact absurd h1 this
theorem NU (l c:Int):jv (Gb l c)=true:=by
 have key:(gE.all λa=>gE.all λb=>jv (dU a b))=true:=by kernel_rfl
 have h0:∀i:Int,((gE[i.toNat]?).getD nL)∈gE:=λi=>by
  cases h:gE[i.toNat]? with
  |none=>decide
  |some l=>exact aH h
 exact aR.1 (aR.1 key _ (h0 _)) _ (h0 _)
theorem GC {q:Nat} {x:Gk} (hx:xH x) {s:bq} (hb:Bw 255 q 10 s) (b:Option Nat):EI 255 (q+1) 11 0 (td x) (ij s [3] (u3 (td x).g.fU) b):=by
 have hm:x.mz.tmod 4=x.mz % 4:=bE hx.mz.1;have hl:=Qr hb.nm;have hok:=NU x.l x.c;refine ⟨(N2 255 x hx (by omega)).mono (by decide),hb.so.add ⟨by decide,by decide,by decide⟩ (xJ 255 (q+1) 6 (oI _ _) l_ 0 ⟨by decide,by decide⟩) b,rfl,?_,rfl⟩;unfold ij;rw [show jv (u3 (td x).g.fU).l=true from hok,Dq,hl];refine ⟨s.th.length,u3 (td x).g.fU,?_,rfl,rfl,λh=>by cases h⟩;have key:∀{l:List (List UInt8×Ob)} {o:Ob},bN [51] l=none→bN [51] (l ++ [([51],o)])=some (l.length,o):=by
  intro l o
  induction l with
  |nil=>intro _;rfl
  |cons p l ih=>
   intro h;have h':(if [51]=p.1 then some (0,p.2) else (bN [51] l).map λx=>(x.1+1,x.2))=none:=h;show (if [51]=p.1 then some (0,p.2) else (bN [51] (l ++ [([51],o)])).map λx=>(x.1+1,x.2))=_
   by_cases hk:([51]:List UInt8)=p.1
   ·rw [if_pos hk] at h';cases h'
   ·rw [if_neg hk] at h' ⊢;cases hl:bN [51] l with
    |some y=>rw [hl] at h';cases h'
    |none=>rw [ih hl];rfl
 show bN [51] (s.th ++ [(cr [3],u3 (td x).g.fU)])=_;rw [Dq];exact key hl
theorem Sv {K:Out→H→Prop} {s:bq} {key:List UInt8} {i:Nat} {o:Ob} (hl:bN key s.th=some (i,o)) (hq:o.va.q.length<100000000) (hk:K (.ret (.tu [fz o,.d (.bool true)])) (jn s)):Sat Tryz.prog 16 [.p 0 0,.d (.str key)] (jn s) K:=by
 have h1:gb s key=o:=by unfold gb;rw [hl];rfl
 have h2:ke s key=true:=by unfold ke;rw [hl];rfl
 refine oh s key (by rw [h1];exact hq) ?_;rw [h1,h2];exact hk
theorem EI.cases {mx:Int} {q n d:Nat} {r:Rs} (h:EI mx q n (d+bif r.d then 1 else 0) r.t r.s):∃j l va fu ma,va.q.length≤q ∧
    ((∃ v ex, bN [51] r.s.th = some (j, ⟨6, l, v, ex, false, va, fu, ma⟩) ∧ r.d = false ∧ d = 0 ∧ (r.t.st == 3) = false ∧ (r.t.st == 4) = false ∧ True) ∨
     (bN [51] r.s.th=some (j,⟨6,l,r.t.v,false,true,va,fu,ma⟩)∧r.d=false∧d=1∧(r.t.st==3)=true∧(r.t.st==4)=false∧r.t.ex=false) ∨
     (bN [51] r.s.th=some (j,⟨6,l,r.t.v,false,true,va,fu,ma⟩)∧r.d=true∧d=0∧(r.t.st==3)=true∧(r.t.st==4)=false∧r.t.ex=false) ∨
     (bN [51] r.s.th=some (j,⟨6,l,r.t.v,true,true,va,fu,ma⟩)∧r.d=false∧d=1∧(r.t.st==3)=false∧(r.t.st==4)=true∧r.t.ex=true) ∨
     (bN [51] r.s.th=some (j,⟨6,l,r.t.v,true,true,va,fu,ma⟩)∧r.d=true∧d=0∧(r.t.st==3)=false∧(r.t.st==4)=true∧r.t.ex=true)):=by
  obtain ⟨j,o,c1,c2,c3,c4⟩:=h.c
  have hd:=h.d
  have hq:o.va.q.length≤q:=by
    obtain ⟨p,hp,rfl⟩:=j7 c1
    exact (h.so.th p hp).ql
  obtain ⟨k,l,v,ex,dn,va,fu,ma⟩:=o
  dsimp only at c2 c3 c4 hq
  subst c2
  refine ⟨j,l,va,fu,ma,hq,?_⟩
  cases ho:gX r.t with
  |false=>
    rw [ho] at c3 hd
    subst c3
    have hn:=ho
    unfold gX at hn
    rw [kq] at hn
    refine .inl ⟨v,ex,c1,?_,?_,hn.1,hn.2,trivial⟩
    · cases hr:r.d with
      |false=>rfl
      |true=>rw [hr] at hd;exact absurd hd (by simp)
    · have hd:d+(bif r.d then 1 else 0)=0:=hd
      omega
  |true=>
    obtain ⟨e1,e2,e3,_⟩:=c4 ho
    rw [ho] at c3 hd
    subst c3 e1 e2
    unfold gX at ho
    cases h4:r.t.st==4 with
    |true=>
      have h3:r.t.st=4:=by simpa using h4
      have hex:=e3.trans h4
      rw [hex] at c1
      cases hr:r.d with
      |false=>
        rw [hr] at hd
        exact .inr (.inr (.inr (.inl ⟨c1,rfl,(show d+0=1 from hd),by rw [h3];rfl,rfl,hex⟩)))
      |true=>
        rw [hr] at hd
        have hd:d+1=1:=hd
        exact .inr (.inr (.inr (.inr ⟨c1,rfl,by omega,by rw [h3];rfl,rfl,hex⟩)))
    |false=>
      rw [h4,Bool.or_false] at ho
      have hex:=e3.trans h4
      rw [hex] at c1
      cases hr:r.d with
      |false=>
        rw [hr] at hd
        exact .inr (.inl ⟨c1,rfl,(show d+0=1 from hd),ho,rfl,hex⟩)
      |true=>
        rw [hr] at hd
        have hd:d+1=1:=hd
        exact .inr (.inr (.inl ⟨c1,rfl,by omega,ho,rfl,hex⟩))
set_option maxHeartbeats 4000000 in
theorem RF (hex:bJ Tryz.prog 9 [] (.d (.bool true))) (q:Nat) (f:List (List Int)) (hf:∀l∈f,nv l) (l:List (Int×Ob)) (hl:∀p∈l,uG 255 q p) (hq:q<70000000) (x:Gk) (hx:xH x) (st:Int) (hst:0≤st∧st≤255) :
  bJ Tryz.prog 4 [.d (.sl 1 (f.map λl=>[D.sl 1 (dz l)])),.d (.sl 20 (l.map iw)),.ag (pC x),.d (.int .u8 st)] (.d (.bool true)):=by
 have h10:=λ{K:Out→H→Prop}=>Mt (K:=K) 255 q f hf l hl (by omega) x hx false;refine s4.go (keep:=false) rfl ?_
 repeat' ((conv=>whnf);first | exact zf | refine zm ?_ | refine zc hex ?_ | refine (h10 (λim s hi hb=>?_)) | intro _)
 have hP:=hi.pr;have hz:Qd false x=x:=rfl;rw [hz];have h14:=λ{K:Out→H→Prop}=>wG (K:=K) s [3] (u3 (td x).g.fU) ⟨⟨by decide,by decide,by decide⟩,hb.gs (by decide),oI _ _,(show (3:Int)≤6 by decide),(show (6:Int)≤7 by decide),(show (0:Nat)<_ by decide)⟩;rw [Dq] at h14
 repeat' ((conv=>whnf);first | exact zf | refine zm ?_ | refine (.inr ?_:(∃_,_)∨_) | refine (h14 (λb n=>?_)) | intro _)
 conv=>whnf
 refine bV [(3,.d (.int .u8 st)),(9,.d (.bool true)),(10,.p 1 0)] (λp:Nat×Nat×Th×bq=>p.1≤64+st.toNat∧EI 255 (q+11+4*p.1) (11+4*p.1) p.2.1 p.2.2.1 p.2.2.2) (λp=>[(12,.d (.int .i64 p.1)),(11,.d (.int .i64 p.2.1))]) (λp=>SG im x p.2.2.1 p.2.2.2) (λp=>64+st.toNat - p.1) (0,0,td x,ij s [3] (u3 (td x).g.fU) b) ⟨ak _,GC hx hb b⟩ ?_ ?_ ?_ (λp hp=>?_)
 ·exact zzz
 ·exact zzz
 ·exact (by kernel_rfl)
 obtain ⟨i,d,t,s⟩:=p;obtain ⟨i1,hE⟩:=hp;dsimp only at i1 hE ⊢
 by_cases hlt:i<64+st.toNat
 ·have tx:decide ((i:Int)<64+st)=true:=by simp;omega
  repeat' ((conv=>whnf);first | exact zf | refine zm ?_ | refine (.inl ⟨by unfold eN;omega,?_⟩) | refine (gG tx ?_) | intro _)
  have hE1:=hE.HO;have h15:bJ Tryz.prog 15 [eX t,.d (.sl 5 [[.int .i64 1,.int .i64 0,.str [],.str [],.str []]])] (eX (l9 t [num 0])):=Dj t [num 0] (show 1<1000000000 by decide) (by have:=hE.th.co.st;omega);have h12:=λ{K:Out→H→Prop}=>Hb (K:=K) im (kv t) s (i:Int) hP hE1.th hE1.so (by decide) (by decide) (by omega) (by omega) (by omega);have hwk:((t.st==1)=true∧kv t=l9 t [num 0])∨((t.st==1)=false∧kv t=t):=by
   unfold kv;cases t.st==1
   ·exact .inr ⟨rfl,rfl⟩
   ·exact .inl ⟨rfl,rfl⟩
  rcases hwk with ⟨tw,ew⟩ | ⟨tw,ew⟩
  all_goals rw [ew] at h12
  all_goals
   repeat' ((conv=>whnf);first | exact zf | refine zm ?_ | refine (gG tw ?_) | refine (gY tw ?_) | refine zc h15 ?_ | refine (.inr ?_:(∃_,_)∨_) | refine (h12 (λb b' r E hr hE2=>?_)) | intro _)
  all_goals
   rw [←ew] at hr;have hS:=hE.step (now:=(i:Int)) hP (by decide) (by decide) (by omega) b b';rw [←hr] at hS;have hdn:E.dn=r.d:=by rw [hE2];exact RH _ _
   have e1:q+11+4*(i+1)=q+11+4*i+4:=by omega
   have e2:11+4*(i+1)=11+4*i+4:=by omega
   have hfin:∃p:Nat×Nat×Th×bq,(p.1≤64+st.toNat∧EI 255 (q+11+4*p.1) (11+4*p.1) p.2.1 p.2.2.1 p.2.2.2)∧p=(i+1,d+(bif r.d then 1 else 0),r.t,r.s):=⟨(i+1,d+(bif r.d then 1 else 0),r.t,r.s),⟨hlt,by dsimp only;rw [e1,e2];exact hS⟩,rfl⟩
   obtain ⟨j,ol,va,fu,ma,hva,hc⟩:=EI.cases hS;rcases hc with ⟨ov,oe,hl,rd,hd0,n3,n4,hex⟩ | ⟨hl,rd,hd0,n3,n4,hex⟩ | ⟨hl,rd,hd0,n3,n4,hex⟩ | ⟨hl,rd,hd0,n3,n4,hex⟩ | ⟨hl,rd,hd0,n3,n4,hex⟩
  all_goals
   have hg:=λ{K:Out→H→Prop}=>Sv (K:=K) hl (by dsimp only;omega);rw [rd] at hdn hfin;subst hd0
   repeat' ((conv=>whnf);first | exact zf | refine zm ?_ | refine (gG hdn ?_) | refine (gY hdn ?_) | refine (.inr ?_:(∃_,_)∨_) | refine (.inl ⟨by unfold eN;omega,?_⟩) | refine (hg ?_) | refine (gG n3 ?_) | refine (gY n3 ?_) | refine (gG (by first | (simp [n4,hex];done) | fail) ?_) | refine (gY (by first | (simp [n4,hex];done) | fail) ?_) | intro _)
  all_goals
   obtain ⟨p,hp1,hp2⟩:=hfin;refine ⟨p,hp1,?_⟩;subst hp2;exact ⟨(by show 64+st.toNat - (i+1)<64+st.toNat - i;omega),zzz,zzz,rfl⟩
 ·have tx:decide ((i:Int)<64+st)=false:=by simp;omega
  repeat' ((conv=>whnf);first | exact zf | refine zm ?_ | refine (.inl ⟨by unfold eN;omega,?_⟩) | refine (gY tx ?_) | intro _)
end Go.Proofs.YtjpgfgajkjhonaaGreatDoor
