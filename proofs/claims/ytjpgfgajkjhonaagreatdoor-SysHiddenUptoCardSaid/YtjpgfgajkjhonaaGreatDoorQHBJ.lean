/- Lemmas. Conditions: none. -/
import Derived.Test.YtjpgfgajkjhonaaGreatDoorQHBI
import Derived.Test.YtjpgfgajkjhonaaGreatDoorCards
import Derived.Test.YtjpgfgajkjhonaaGreatDoorTie
import Derived.Deep.DeepWitnessRowRef
import Derived.Lib.SmallJoins
import Derived.Stop.LaidErr
import Derived.Lay
import Derived.Test.YtjpgfgajkjhonaaGreatDoorQHBH
set_option maxHeartbeats 4000000
namespace Go.Proofs.YtjpgfgajkjhonaaGreatDoor
open Go.Vx
set_option maxRecDepth 100000
open Go.ChangeShapes Go.WideShapes Go.ChangeAt Go.RowKit
def Ts {H:Type}:List D→DataW H
 |[.str s,.int _ a,.int _ b,.int _ c]=>.agg [.lit (.string s),.lit (.int .u8 a),.lit (.int .u8 b),.lit (.int .u8 c)]
 |_=>.nil
theorem Lu {H:Type}:(Rows.laid_lazaretto_op_table:DataW H) = .agg (iP.map Ts):=rfl
theorem Hg:laidOutB Tryz.prog=true:=zx0
theorem VG:ownKnob Tryz.prog.godebug=none:=zx0
theorem V6:Tryz.prog.globalNamed "lazaretto/op.table" = some 0:=zx0
theorem ML:(Tryz.prog.globals[0]?).map (·.type)=some 276:=zx0
theorem KA:Tryz.prog.cellsOf 276=188:=zx0
theorem zd:Tryz.prog.cellsOf 275=4:=zx0
theorem RH:Tryz.prog.cellsOf 5=1:=zx0
theorem RG:Tryz.prog.cellsOf 9=1:=zx0
theorem MN {α:Type} {cs:List α} (h:cs.length=4):∃c0 c1 c2 c3,cs = [c0,c1,c2,c3]:=by
 match cs,h with
 |[c0,c1,c2,c3],_=>exact ⟨c0,c1,c2,c3,rfl⟩
theorem Pg {H:Type} {enc:TypeId×Value→H} {w:World} {base:Nat} {sp:Nat→Bool} {held:Bool} {fuel:Nat} {cs:List Value} {s:List UInt8} {a b c:Int} {p:List MemPlace} (G:Nat→Prop)
  (h:DataW.trod enc Tryz.prog w base sp held fuel 275 cs=some (.agg [.lit (.string s),.lit (.int .u8 a),.lit (.int .u8 b),.lit (.int .u8 c)],p)) :
  cs.length=4∧∀(j:Nat) (x:D),[D.str s,.int .u8 a,.int .u8 b,.int .u8 c][j]? = some x→∃v,cs[j]? = some v∧bw G w v x:=by
 obtain ⟨y0,y1,y2,y3,n,hx,hl,h0,h1,h2,h3⟩:=Go.Joins.trod_struct4 Tryz.underlying275 h;rw [zd] at hl;obtain ⟨c0,c1,c2,c3,rfl⟩:∃c0 c1 c2 c3,cs = [c0,c1,c2,c3]:=MN hl;simp only [RG,RH,List.drop_zero,mT,dk,nZ] at h0 h1 h2 h3;obtain ⟨s',e0,rfl,hs⟩:=DataW.trod_string Tryz.underlying9 h0;obtain ⟨a',e1,rfl,_⟩:=DataW.trod_int Tryz.underlying5 h1;obtain ⟨b',e2,rfl,_⟩:=DataW.trod_int Tryz.underlying5 h2;obtain ⟨c',e3,rfl,_⟩:=DataW.trod_int Tryz.underlying5 h3;simp only [List.cons.injEq,ω] at e0 e1 e2 e3;subst e0 e1 e2 e3;simp only [bW,DataW.agg.injEq,List.cons.injEq,DataW.lit.injEq,Lit.string.injEq,Lit.int.injEq,ω,true_and] at hx;obtain ⟨⟨rfl,rfl,rfl,rfl⟩,_⟩:=hx;refine ⟨rfl,λj x hj=>?_⟩
 match j,hj with
 |0,hj=>cases hj;exact ⟨_,rfl,.str s' hs⟩
 |1,hj=>cases hj;exact ⟨_,rfl,.int .u8 _⟩
 |2,hj=>cases hj;exact ⟨_,rfl,.int .u8 _⟩
 |3,hj=>cases hj;exact ⟨_,rfl,.int .u8 _⟩
 |j+4,hj=>simp at hj
theorem Gy:∀i,i<47→∃s a b c,iP[i]? = some [.str s,.int .u8 a,.int .u8 b,.int .u8 c]:=by
 intro i hi
 match i,hi with
 |0,_ | 1,_ | 2,_ | 3,_ | 4,_ | 5,_ | 6,_ | 7,_ | 8,_ | 9,_ | 10,_ | 11,_ | 12,_ | 13,_ | 14,_ | 15,_ | 16,_ | 17,_ | 18,_ | 19,_ | 20,_ | 21,_ | 22,_ | 23,_ | 24,_ | 25,_ | 26,_ | 27,_ | 28,_ | 29,_ | 30,_ | 31,_ | 32,_ | 33,_ | 34,_ | 35,_ | 36,_ | 37,_ | 38,_ | 39,_ | 40,_ | 41,_ | 42,_ | 43,_ | 44,_ | 45,_ | 46,_=>exact ⟨_,_,_,_,rfl⟩
 |n+47,h=>omega
theorem Np:∀(l:List (List D)),(∀r∈l,r.length=4)→∀(j:Nat),l.flatten[j]? = (l[j / 4]?).bind (·[j % 4]?)
 |[],_,j=>by simp
 |r :: l,h,j=>by
  have hr:=h r (by simp);rw [List.flatten_cons]
  by_cases hj:j<4
  ·rw [aO (by omega),Nat.div_eq_of_lt hj,cX hj];simp
  ·rw [aY (by omega),Np l (λx hx=>h x (by simp [hx])),hr,show j / 4=(j - 4) / 4+1 by omega,show j % 4=(j - 4) % 4 by omega];simp
theorem JT (j:Nat):j / 4*4+j % 4=j:=by omega
theorem La {l:List (List D)} {n i:Nat} {f:List D→Option D} {x:D} {A:Prop} (hl:l.length=n) (h:¬i<n) (hx:(l[i]?).bind f=some x):A:=by
 rw [eP (by omega)] at hx;cases hx
theorem QE:iP.length=47:=rfl
theorem L1:∀r∈iP,r.length=4:=by decide
theorem SC {k g:Nat} {r row:List D} (h:A1 [(k,r)] g=some row):g=k∧row=r:=by
 simp only [A1] at h;cases hb:Nat.beq k g with
 |false=>rw [hb] at h;cases h
 |true=>
  rw [hb] at h;exact ⟨(dH hb).symm,(an h).symm⟩
theorem Qk {W:World} (h:laidMet Tryz.prog Rows.sysThrowsRow.laid W):R0 (all W) W:=by
 have h7:laidMet Tryz.prog [("lazaretto/op.table",Rows.laid_lazaretto_op_table),("unicode/utf8.first",Rows.laid_unicode_utf8_first)] W:=laidMet.tail (laidMet.tail (laidMet.tail (laidMet.tail (laidMet.tail (laidMet.tail h)))));obtain ⟨ps,⟨g,t,cs,fuel,p,q,hg,ht,hv,hd,_,_⟩,_⟩:=h7;obtain rfl:=an (V6.symm.trans hg);obtain rfl:=an (ML.symm.trans ht);rw [Lu] at hd;obtain ⟨xs,m,rfl,hx,hl,hxl,hel⟩:=DataW.trod_array Tryz.underlying276 hd;rw [zd] at hel;rw [KA] at hl;simp only [bW,DataW.agg.injEq] at hx;have hlt:0<W.heap.size:=by
  unfold World.var? at hv;rw [V6] at hv;rcases cq 0 W.heap.size with h' | h'
  ·exact h'
  ·simp [kV h'] at hv
 have key:∀(j:Nat) (x:D),iP.flatten[j]? = some x→∃v,cs[j]? = some v∧bw (all W) W v x:=by
  intro j x hj;rw [Np _ L1] at hj
  by_cases hi:j / 4<47
  ·obtain ⟨s,a,b,c,hs⟩:=Gy _ hi;have h1:=hel _ hi;have h2:(xs.map (·.1))[j / 4]? = some (.agg [.lit (.string s),.lit (.int .u8 a),.lit (.int .u8 b),.lit (.int .u8 c)]):=by
    rw [←hx.1,aC,hs];rfl
   rw [aC] at h2;cases hy:xs[j / 4]? with
   |none=>rw [hy] at h2;cases h2
   |some y=>
    rw [hy] at h2 h1;obtain ⟨y1,y2⟩:=y;simp only [bA,aE] at h2;subst h2;obtain ⟨_,hk⟩:=Pg (all W) h1;rw [hs] at hj;obtain ⟨v,hv1,hv2⟩:=hk (j % 4) x (by simpa using hj);refine ⟨v,?_,hv2⟩;rw [List.getElem?_take_of_lt (Nat.mod_lt _ (by decide)),aw,JT] at hv1;rw [←bQ];exact hv1
  ·exact La QE hi hj
 intro g row hrow;have hg0:g=0∧row=iP.flatten:=by
  unfold Tk at hrow;exact SC hrow
 obtain ⟨rfl,rfl⟩:=hg0;refine ⟨hlt,λj=>cs.getD j undef,λj x hj=>?_,λj x hj=>?_⟩
 ·obtain ⟨v,h1,_⟩:=key j x hj;rw [World.var?_cell V6 hv,bh,h1];simp [h1]
 ·obtain ⟨v,h1,h2⟩:=key j x hj;simp only [aF,h1];exact h2
theorem Tf {l:List (String×DataW Unit)} (e:(l.filter λx=>x.2.handleName?.isSome) = []) {W:World} (h:laidMetH Tryz.prog l W):laidMet Tryz.prog l W:=by
 unfold laidMetH at h;rw [e] at h;exact h
theorem BC:(Rows.sysThrowsRow.laid.filter λx=>x.2.handleName?.isSome) = []:=zx0
theorem uH {W:World} (h:laidMetH Tryz.prog Rows.sysThrowsRow.laid W):R0 (all W) W:=Qk (Tf BC h)
noncomputable def zC (os:Os):World:=World.laidAll Tryz.prog os Rows.sysThrowsRow.laid
theorem Hf (os:Os):(zC os).os=os:=World.laidAll_os _ _ _
theorem Ec (os:Os) (args:Array Value):laidMet Tryz.prog Rows.sysThrowsRow.laid ((zC os).forCall (λ_ _=>0) ⟨#[],args,[]⟩).memory:=
 laidMet_laidAll args zx0 zx0
theorem BQ (os:Os) (args:Array Value):(((zC os).forCall (λ_ _=>0) ⟨#[],args,[]⟩).heap.toList.drop Tryz.checked.prog.globals.size).take ((begin Tryz.checked.prog (λ_ _=>0) default).world.heap.size - Tryz.checked.prog.globals.size) =
 (begin Tryz.checked.prog (λ_ _=>0) default).world.heap.toList.drop Tryz.checked.prog.globals.size:=zx0
abbrev Uq:Go.Vx.Ty:=.pr .str (.pr .str .un)
abbrev UX:Go.Vx.Ty:=.pr (.int .i64) (.pr (.int .i64) (.pr .str (.pr Uq .un)))
abbrev Up:Go.Vx.Ty:=.pr .str (.pr .bool (.pr UX .un))
abbrev Wp:Go.Vx.Ty:=.pr .bool (.pr UX (.pr (.sl Up) .un))
abbrev WQ:Go.Vx.Ty:=.pr (.int .i64) (.pr Uq (.pr UX (.pr .bool (.pr .bool (.pr Wp (.pr (.int .i64) (.pr (.int .u8) .un)))))))
abbrev Rz:Go.Vx.Ty:=.pr (.int .u8) (.pr WQ .un)
abbrev WO:Go.Vx.Ty:=.pr (.int .u8) (.pr (.int .u8) (.pr (.int .u8) (.pr (.int .u8) (.pr (.int .u8) (.pr (.int .u8) .un)))))
theorem Rw:wO Tryz.prog 9 22=some (.sl (.sl (.int .u8))):=zx0
theorem Rx:wO Tryz.prog 9 23=some (.sl Rz):=zx0
theorem Ry:wO Tryz.prog 9 25=some WO:=zx0
theorem w7 {N:Nat} {xs:List D} (h:mV N (.int .u8) xs):∃n:Int,(0≤n∧n≤255)∧xs = [D.int .u8 n]:=by
 obtain ⟨n,rfl,hn⟩:=pY h;exact ⟨n,⟨by unfold e8 at hn;omega,by unfold e8 at hn;omega⟩,rfl⟩
theorem yY:∀(rows:List (List D)),(∀row∈rows,∃n:Int,(0≤n∧n≤255)∧row = [D.int .u8 n])→∃l,rows=eJ l∧pM l
 |[],_=>⟨[],rfl,λ_ h=>by cases h⟩
 |r :: rs,h=>by
  obtain ⟨n,hn,rfl⟩:=h r (by simp);obtain ⟨l,rfl,hl⟩:=yY rs (λy hy=>h y (by simp [hy]));exact ⟨n :: l,rfl,λx hx=>by
   rcases a8.1 hx with rfl | hx
   ·exact hn
   ·exact hl x hx⟩
theorem vV {N:Nat}:∀(rows:List (List D)),(∀row∈rows,mV N (.sl (.int .u8)) row)→∃L:List (List Int),rows=(L.map λl=>[D.sl 1 (eJ l)])∧∀l∈L,pM l
 |[],_=>⟨[],rfl,λ_ h=>by cases h⟩
 |r :: rs,h=>by
  obtain ⟨q,rfl,_,hq⟩:=wZ (h r (by simp));obtain ⟨l,rfl,hl⟩:=yY q λrow hrow=>w7 (hq row hrow);obtain ⟨L,rfl,hL⟩:=vV rs (λy hy=>h y (by simp [hy]));exact ⟨l :: L,rfl,λx hx=>by
   rcases a8.1 hx with rfl | hx
   ·exact hl
   ·exact hL x hx⟩
theorem P6 {N:Nat} {rows:List (List D)} (h:mV N (.sl (.sl (.int .u8))) [.sl (Go.Vx.Ty.sl (.int .u8)).n rows]):∃L:List (List Int),rows=(L.map λl=>[D.sl 1 (eJ l)])∧∀l∈L,pM l:=by
 obtain ⟨_,he,_,hr⟩:=wZ h;cases he;exact vV rows hr
section
variable {xs:List D}
theorem SJ (h:mV 1048576 Uq xs):∃l:Lb,xs = [.str l.s,.str l.i]∧cI l:=by
 obtain ⟨_,_,rfl,h1,g1⟩:=eB h;obtain ⟨s,rfl,l1⟩:=sF h1;obtain ⟨_,_,rfl,h2,g2⟩:=eB g1;obtain ⟨i,rfl,l2⟩:=sF h2;cases o_ g2;exact ⟨⟨s,i⟩,rfl,And.intro (aZ l1 (by decide)) (aZ l2 (by decide))⟩
theorem P5 (h:mV 1048576 UX xs):∃v:Va,xs=cK v∧cI (bE v):=by
 obtain ⟨_,_,rfl,h1,g1⟩:=eB h;obtain ⟨k,rfl,_⟩:=pY h1;obtain ⟨_,_,rfl,h2,g2⟩:=eB g1;obtain ⟨n,rfl,_⟩:=pY h2;obtain ⟨_,_,rfl,h3,g3⟩:=eB g2;obtain ⟨nm,rfl,_⟩:=sF h3;obtain ⟨_,_,rfl,h4,g4⟩:=eB g3;obtain ⟨l,rfl,hl⟩:=SJ h4;cases o_ g4;exact ⟨⟨k,n,nm,l.s,l.i⟩,rfl,hl⟩
theorem U_ (h:mV 1048576 Up xs):∃w:Wt,xs=dX w∧cI (bE w.v):=by
 obtain ⟨_,_,rfl,h1,g1⟩:=eB h;obtain ⟨i,rfl,_⟩:=sF h1;obtain ⟨_,_,rfl,h2,g2⟩:=eB g1;obtain ⟨b,rfl⟩:=pZ h2;obtain ⟨_,_,rfl,h3,g3⟩:=eB g2;obtain ⟨v,rfl,hv⟩:=P5 h3;cases o_ g3;exact ⟨⟨i,b,v⟩,rfl,hv⟩
theorem NR:∀(rows:List (List D)),(∀row∈rows,mV 1048576 Up row)→∃q:List Wt,rows=q.map dX∧∀w∈q,cI (bE w.v)
 |[],_=>⟨[],rfl,λ_ h=>by cases h⟩
 |r :: rs,h=>by
  obtain ⟨w,rfl,hw⟩:=U_ (h r (by simp));obtain ⟨q,rfl,hq⟩:=NR rs (λy hy=>h y (by simp [hy]));exact ⟨w :: q,rfl,λx hx=>by
   rcases a8.1 hx with rfl | hx
   ·exact hw
   ·exact hq x hx⟩
theorem VB (h:mV 1048576 WQ xs):∃o:Ob,xs=ek o∧kY 255 1048576 o:=by
 obtain ⟨_,_,rfl,h1,g1⟩:=eB h;obtain ⟨k,rfl,_⟩:=pY h1;obtain ⟨_,_,rfl,h2,g2⟩:=eB g1;obtain ⟨l,rfl,hl⟩:=SJ h2;obtain ⟨_,_,rfl,h3,g3⟩:=eB g2;obtain ⟨v,rfl,hv⟩:=P5 h3;obtain ⟨_,_,rfl,h4,g4⟩:=eB g3;obtain ⟨ex,rfl⟩:=pZ h4;obtain ⟨_,_,rfl,h5,g5⟩:=eB g4;obtain ⟨dn,rfl⟩:=pZ h5;obtain ⟨_,_,rfl,h6,g6⟩:=eB g5;obtain ⟨_,_,rfl,a1,b1⟩:=eB h6;obtain ⟨full,rfl⟩:=pZ a1;obtain ⟨_,_,rfl,a2,b2⟩:=eB b1;obtain ⟨u,rfl,hu⟩:=P5 a2;obtain ⟨_,_,rfl,a3,b3⟩:=eB b2;obtain ⟨rows,rfl,hn,hr⟩:=wZ a3;obtain ⟨q,rfl,hq⟩:=NR rows hr;cases o_ b3;obtain ⟨_,_,rfl,h7,g7⟩:=eB g6;obtain ⟨fu,rfl,_⟩:=pY h7;obtain ⟨_,_,rfl,h8,g8⟩:=eB g7;obtain ⟨ma,hm,rfl⟩:=w7 h8;cases o_ g8;exact ⟨⟨k,l,v,ex,dn,⟨full,u,q⟩,fu,ma⟩,rfl,⟨hl,hv,hu,hq,by rw [aI] at hn;exact hn,hm⟩⟩
theorem VC (h:mV 1048576 Rz xs):∃p:Int×Ob,xs=fD p∧tO 255 1048576 p:=by
 obtain ⟨_,_,rfl,h1,g1⟩:=eB h;obtain ⟨i,hi,rfl⟩:=w7 h1;obtain ⟨_,_,rfl,h2,g2⟩:=eB g1;obtain ⟨o,rfl,ho⟩:=VB h2;cases o_ g2;exact ⟨(i,o),by show [D.int .u8 i]++(ek o ++ [])=_;rw [cU];rfl,⟨hi,ho⟩⟩
theorem yZ:∀(rows:List (List D)),(∀row∈rows,mV 1048576 Rz row)→∃l:List (Int×Ob),rows=l.map fD∧∀p∈l,tO 255 1048576 p
 |[],_=>⟨[],rfl,λ_ h=>by cases h⟩
 |r :: rs,h=>by
  obtain ⟨w,rfl,hw⟩:=VC (h r (by simp));obtain ⟨q,rfl,hq⟩:=yZ rs (λy hy=>h y (by simp [hy]));exact ⟨w :: q,rfl,λx hx=>by
   rcases a8.1 hx with rfl | hx
   ·exact hw
   ·exact hq x hx⟩
theorem SK {rows:List (List D)} (h:mV 1048576 (.sl Rz) [.sl Rz.n rows]):∃l:List (Int×Ob),rows=l.map fD∧(∀p∈l,tO 255 1048576 p)∧l.length≤1048576:=by
 obtain ⟨_,he,hn,hr⟩:=wZ h;cases he;obtain ⟨l,rfl,hl⟩:=yZ rows hr;exact ⟨l,rfl,hl,by rw [aI] at hn;exact hn⟩
theorem VA (h:mV 1048576 WO xs):∃x:Dm,xs.map V.d=qN x∧tQ x:=by
 obtain ⟨_,_,rfl,h1,g1⟩:=eB h;obtain ⟨a,ha,rfl⟩:=w7 h1;obtain ⟨_,_,rfl,h2,g2⟩:=eB g1;obtain ⟨b,hb,rfl⟩:=w7 h2;obtain ⟨_,_,rfl,h3,g3⟩:=eB g2;obtain ⟨c,hc,rfl⟩:=w7 h3;obtain ⟨_,_,rfl,h4,g4⟩:=eB g3;obtain ⟨d,hd,rfl⟩:=w7 h4;obtain ⟨_,_,rfl,h5,g5⟩:=eB g4;obtain ⟨e,he,rfl⟩:=w7 h5;obtain ⟨_,_,rfl,h6,g6⟩:=eB g5;obtain ⟨f,hf,rfl⟩:=w7 h6;cases o_ g6;exact ⟨⟨a,b,c,d,e,f⟩,rfl,⟨ha,hb,hc,hd,he,hf⟩⟩
end
theorem P4 {H:Type} {l:List (DataW H)} (hk:Rows.uptoSmall H l=true):Rows.uptoBulkAll l≤1048576:=θ hk
end Go.Proofs.YtjpgfgajkjhonaaGreatDoor
namespace Go.Proofs.YtjpgfgajkjhonaaGreatDoor
open Go.Vx
set_option maxRecDepth 100000
structure L7 (im:Im) (t:Th) (s:b8) (now:Int):Prop where
  st:St im t.c (bS t).fr (bS t).tr (eF im t.c (bS t).fr (bS t).tr)
  lf:t.c.fr.length<900000000
  ls:t.c.st.length<800000000
  q:wY s t.id
  ask:(eF im t.c (bS t).fr (bS t).tr).2.k=3→∃o f i F,eF im t.c (bS t).fr (bS t).tr=(t.c,⟨3,zeroV,o⟩)∧t.c.fr.getLast? = some f∧inf o.c=some i∧fJ t.c i.po=true∧(0≤f.pc∧f.pc<1000000000)∧Db o.c F∧Nat.blt F 5000000=true ∧
    (∀{K:KT},(Fb (jI (ll im t now) o f i.po) s).K K→Z1 F [.p 0 0] (e7 (jI (ll im t now) o f i.po) s) K)∧∀n c' s',Fb (jI (ll im t now) o f i.po) s = .ex n c' s'→wY s' c'.t.id
theorem Qv {K : Out → H → Prop} (im : Im) (t : Th) (s : b8) (now : Int) (h : t.st = 0 → L7 im t s now) (hk : ∀ b, K (.ret (.tu [eo (FH im t s now b).t, sA ((FH im t s now b).e.ef (FH im t s now b).d)])) (j6 (FH im t s now b).s)) :
    Z1 34 [xm im,eo t,.p 0 0,.d (.int .i64 now)] (j6 s) K:=by
  unfold FH at hk
  by_cases h0:t.st=0
  · have hz:(t.st != 0)=false:=by simp [h0]
    rw [hz] at hk
    have hd:=h h0
    have h1:=xU t
    have h2:=hd.st
    have hq:=hd.q
    have hask:=hd.ask
    unfold St at h2
    generalize hr:eF im t.c (bS t).fr (bS t).tr=r at h2 hk hask
    obtain ⟨k,u⟩:=r
    by_cases k1:u.k=1
    · rw [show (u.k==1)=true by simp [k1]] at hk
      have h3:=λ{K:KT}=>oH (K:=K) (rJ (ll im t now) k) s u.v false hq
      refine sh0 Tryz.f34 ?_
      repeat' ((conv=>whnf);first | exact zf | refine zm ?_ | refine zc h1 ?_ | refine zc h2 ?_ | refine zr0 ?_ | refine (h3 ?_) | refine zt ?_ | refine zu ?_ | intro _)
      exact hk none
    · by_cases k2:u.k=2
      · rw [show (u.k==1)=false by simp [k1],show (u.k==2)=true by simp [k2]] at hk
        have h3:=λ{K:KT}=>oH (K:=K) (rJ (ll im t now) k) s u.v true hq
        refine sh0 Tryz.f34 ?_
        repeat' ((conv=>whnf);first | exact zf | refine zm ?_ | refine zc h1 ?_ | refine zc h2 ?_ | refine zr0 ?_ | refine (h3 ?_) | refine zt ?_ | refine zu ?_ | intro _)
        exact hk none
      · by_cases k3:u.k=3
        · rw [show (u.k == 1) = false by simp [k1], show (u.k == 2) = false by simp [k2], show (u.k == 3) = true by simp [k3]] at hk
          obtain ⟨o,f,i,F,e,hf,hi,hp,hpc,hF,hlt,hR,hx⟩:=hask k3
          cases e
          have h3:=λ{K:KT}=>Nw (K:=K) (ll im t now) s o f i F _ hi hf hd.lf hd.ls hp hpc hF hlt hR hx
          replace hk:∀b,K (.ret (.tu [eo ((Fb (jI (ll im t now) o f i.po) s).fin t.c b).t,sA (((Fb (jI (ll im t now) o f i.po) s).fin t.c b).e.ef ((Fb (jI (ll im t now) o f i.po) s).fin t.c b).d)])) (j6 ((Fb (jI (ll im t now) o f i.po) s).fin t.c b).s):=λb=>by
            have:=hk b
            unfold UH at this
            rw [show (ll im t now).t.c.fr.getLast? = some f from hf,hi] at this
            exact this
          generalize Fb (jI (ll im t now) o f i.po) s=R at h3 hk
          cases R with
          |ok e g=>
            cases e
            all_goals
              refine sh0 Tryz.f34 ?_
              repeat' ((conv=>whnf);first | exact zf | refine zm ?_ | refine zc h1 ?_ | refine zc h2 ?_ | refine zr0 ?_ | refine (h3 (λb=>?_)) | refine zt ?_ | refine zu ?_ | intro _)
              exact hk _
          |ex n c' s'=>
            have h4:=λ{K:KT} (g:K (.ret (.tu [])) (UC (lB c' s' t.c n)))=>h3 (K:=K) g
            refine sh0 Tryz.f34 ?_
            repeat' ((conv=>whnf);first | exact zf | refine zm ?_ | refine zc h1 ?_ | refine zc h2 ?_ | refine zr0 ?_ | refine (h4 ?_) | refine zt ?_ | refine zu ?_ | intro _)
            exact hk none
        · rw [show (u.k==1)=false by simp [k1],show (u.k==2)=false by simp [k2],show (u.k==3)=false by simp [k3]] at hk
          refine sh0 Tryz.f34 ?_
          repeat' ((conv=>whnf);first | exact zf | refine zm ?_ | refine zc h1 ?_ | refine zc h2 ?_ | refine zt ?_ | refine zu ?_ | intro _)
          exact hk none
  · have hz:(t.st != 0)=true:=by simp [h0]
    rw [hz] at hk
    refine sh0 Tryz.f34 ?_
    repeat' ((conv=>whnf);first | exact zf | refine zm ?_ | refine zt ?_ | refine zu ?_ | intro _)
    exact hk none
section
variable {im:Im} {c:Co} {fr tr:Int}
def MU (k:Int):Bool:=(k==1)||((k==2)||((k==18)||((k==27)||((k==29)||((k==30)||((k==32)||((k==35)||(k==41))))))))
theorem CR (h:Rf im c) {o:Op} (hf:fit im c=some o) (hs:MU o.c=true):St im c fr tr (eF im c fr tr):=by
 unfold eF;rw [hf];obtain ⟨f,fn,hl,w1,hfn,w2,ho,hr,hop,hpo⟩:=nS hf;simp only [hl];obtain ⟨a1,a2⟩:=within_iff.1 w2;have:=h.cd _ _ hfn;have x:Cx im c fr tr o f fn:=⟨h.hI,hf,hl,⟨a1,by omega⟩,hop,hpo,h.lf,h.ls,h.lt⟩
 obtain ⟨k,oa⟩:=o;simp only [MU,b_,ξ] at hs;rcases hs with rfl | rfl | rfl | rfl | rfl | rfl | rfl | rfl | rfl
 ·exact WW x
 ·exact WV x
 ·exact TQ x
 all_goals exact ux x (λ_=>rfl)
end
def eS:b8:=⟨[],[]⟩
abbrev SS:=Option Nat→Th×b8
def TV (k:Int) (m:Lb) (v:Va):Ob:={ fT with k:=k,l:=m,v:=v }
theorem vh {key:List UInt8}:∀{l:List (List UInt8×Ob)} {i:Nat} {o:Ob},bI key l=some (i,o)→∃p∈l,p.2=o
 |[],_,_,h=>nomatch h
 |p :: r,i,o,h=>by
  unfold bI at h
  by_cases hb:key=p.1
  ·rw [ζ hb] at h;cases h;exact ⟨p,bc ..,rfl⟩
  ·rw [η hb] at h;cases hr:bI key r with
   |none=>rw [hr] at h;cases h
   |some q=>
    rw [hr] at h;obtain ⟨p',hp,he⟩:=vh (i:=q.1) (o:=q.2) (by rw [hr]);cases h;exact ⟨p',cQ _ hp,he⟩
theorem ou {s:b8} {nm:List UInt8} (h:∀p∈s.th,p.2.va.q.length<100000000):wY s nm:=λi o ho=>by
 obtain ⟨p,hp,he⟩:=vh ho;rw [←he];exact h p hp
theorem Wr (a b:Lb):cI (db a b):=⟨gC _,gC _⟩
theorem PS:cR [3] = [51]:=zx0
theorem yu {c c':Ca} {s s':b8} {o:Ob} {n:Int} (h:rR c s o = .ex n c' s'):s'=s:=by
 unfold rR at h;cases hw:bV c.t.g o.l==0<;>rw [hw] at h
 ·cases h;rfl
 ·cases hr:decide (c.t.ro<1)<;>rw [hr] at h<;>cases h;rfl
theorem Dw {c c':Ca} {s s':b8} {l:Lb} {n:Int} (h:nB c s l = .ex n c' s'):s'=s:=by
 unfold nB at h;cases hw:dY c.t.g l==0<;>rw [hw] at h<;>cases h;rfl
theorem Ci {k:Int} {c c':Ca} {s s':b8} {n:Int} (h:E4 k c s = .ex n c' s'):s'=s:=by
 unfold E4 at h;cases hw:cD [0,2] c.ar<;>rw [hw] at h
 ·cases h;rfl
 ·exact yu h
theorem HV {c c':Ca} {s s':b8} {n:Int} (h:HX c s = .ex n c' s'):s'=s:=by
 unfold HX at h;cases hw:cD [2] c.ar<;>rw [hw] at h
 ·cases h;rfl
 ·exact yu h
theorem ER {c c':Ca} {s s':b8} {n:Int} (h:pB c s = .ex n c' s'):s'=s:=by
 unfold pB at h;cases hw:cD [2] c.ar<;>rw [hw] at h
 ·cases h;rfl
 ·exact Dw h
theorem LY {c c':Ca} {s s':b8} {n:Int} (h:Au c s = .ex n c' s'):s'=s:=by
 unfold Au at h;cases hw:cD [0,2] c.ar<;>rw [hw] at h
 ·cases h;rfl
 ·cases hg:bV c.t.g (bE (c.ar[1]?.getD de))==0<;>rw [hg] at h<;>cases h;rfl
theorem Gx {c c':Ca} {s s':b8} {n:Int} (h:tM c s = .ex n c' s'):s'=s:=by
  unfold tM at h
  cases hw:cD [3] c.ar<;>rw [hw] at h
  · cases h;rfl
  · rw [δ] at h
    unfold pb at h
    cases ht:dY c.t.g (bE (c.ar[0]?.getD de))==0<;>rw [ht] at h
    · cases h;rfl
    · rw [δ] at h
      split at h
      · unfold mP at h
        rename_i p o hp
        cases ho:o.ex<;>rw [ho] at h<;>cases h
        rfl
      · cases h
theorem Av {c c':Ca} {s s':b8} {n:Int} (h:Fb c s = .ex n c' s'):s'=s:=by
 unfold Fb at h;cases h1:c.o.c==27<;>rw [h1] at h
 ·cases h2:c.o.c==29<;>rw [h2] at h
  ·cases h3:c.o.c==30<;>rw [h3] at h
   ·cases h4:c.o.c==32<;>rw [h4] at h
    ·cases h5:c.o.c==35<;>rw [h5] at h
     ·cases h6:c.o.c==41<;>rw [h6] at h
      ·cases h;rfl
      ·exact LY h
     ·exact HV h
    ·exact Ci h
   ·exact Gx h
  ·exact Ci h
 ·exact ER h
theorem Ch {p:List UInt8×Ob} (h:p∈eS.th):p.2.va.q.length<100000000:=nomatch h
theorem pf (n:Int):Z0 21 [.d (.int .i64 n)] (jl (num n)):=by
 refine sh0 Tryz.f21 ?_
 exact zj0
theorem Qg:Z0 30 [] (jT ⟨[0],[]⟩):=by
 refine sh0 Tryz.f30 ?_
 exact zj0
def DY (c:Ca) (e:List V) (a:V) (s:Nat):List V:=
 [.nl 5,.nl 3,.p s 0,.d (.int .i64 c.now)]++(fC c.t).map .d ++ [.d (.int .i64 c.tr)]++e ++ [.d (.int .i64 c.o.c),.d (.int .i64 c.o.a),a,.d (.int .u8 c.ma)]
def Wd (c:Ca) (s:b8):H:=.cells (DY c [.nl 20,.nl 7,.nl 6,.nl 2,.d (.bool false)] (.nl 5) 1) :: [.cells [.mp 2,.mp 3],.dm (iy s.th),.ms 1 (kh s.nm) none none]
def Wc (p:Ca×Bool×b8):H:=.cells (DY p.1 [.nl 20,.nl 7,.nl 6,.nl 2,.d (.bool p.2.1)] (.nl 5) 1) :: [.cells [.mp 2,.mp 3],.dm (iy p.2.2.th),.ms 1 (kh p.2.2.nm) none none]
theorem FC {K:KT} (c:Ca) (s:b8) (v:Va) (ex:Bool) (hqa:∀i o,bI c.t.id s.th=some (i,o)→o.va.q.length<100000000) (hk:K (.ret (.tu [])) (Wc (oS c s v ex))):Z1 72 [.p 0 0,jl v,.d (.bool ex)] (Wd c s) K:=by
 have h1:=qo c.t v ex;have hid:(ei c.t v ex).id=c.t.id:=rfl;unfold oS at hk;generalize ei c.t v ex=t at h1 hid hk;rw [←hid] at hqa;have hq:(ic s t.id).va.q.length<100000000:=by
  unfold ic;cases hlk:bI t.id s.th with
  |none=>simp [fT,BD]
  |some p=>exact hqa p.1 p.2 hlk
 by_cases h30:t.st=3
 ·have hnot:¬(t.st≠3∧t.st≠4):=λh=>h.1 h30;simp only [hnot,ψ] at hk;have hg:=rW (K:=λout h=>out = .ret (.tu [fz (ic s t.id),.d (.bool (mX s t.id))])∧h=j6 s) s t.id hq ⟨rfl,rfl⟩;unfold ic mX at hg;cases hlk:bI t.id s.th with
  |none=>
   rw [hlk] at hg hk;refine sh0 Tryz.f72 ?_
   repeat' ((conv=>whnf);first | exact zf | refine (bp (cC ?_):eZ _ (eZ (ky _ _ _ _ 16 _ _ _ _ _ _ _) _)) | refine zm ?_ | refine zc h1 ?_ | refine ⟨_,_,hg,?_⟩ | refine zt ?_ | refine zu ?_ | intro _)
   exact hk
  |some p=>
   obtain ⟨i,o⟩:=p;rw [hlk] at hg hk
   by_cases h6:o.k=6
   ·have hset:=λ{K:KT}=>ly (K:=K) s t.id i { o with v:=v,ex:=ex,dn:=true } o hlk rfl rfl (hqa i o hlk);dsimp only at hk;rw [ζ h6] at hk;refine sh0 Tryz.f72 ?_
    repeat' ((conv=>whnf);first | exact zf | refine (bp (cC ?_):eZ _ (eZ (ky _ _ _ _ 16 _ _ _ _ _ _ _) _)) | refine zm ?_ | refine zc h1 ?_ | refine ⟨_,_,hg,?_⟩ | refine zr0 ?_ | refine (hset ?_) | refine zt ?_ | refine zu ?_ | intro _)
    exact hk
   ·simp only [h6,ψ] at hk;refine sh0 Tryz.f72 ?_
    repeat' ((conv=>whnf);first | exact zf | refine (bp (cC ?_):eZ _ (eZ (ky _ _ _ _ 16 _ _ _ _ _ _ _) _)) | refine zm ?_ | refine zc h1 ?_ | refine ⟨_,_,hg,?_⟩ | refine zt ?_ | refine zu ?_ | intro _)
    exact hk
 ·by_cases h3:t.st=4
  ·have hnot:¬(t.st≠3∧t.st≠4):=λh=>h.2 h3;simp only [hnot,ψ] at hk;have hg:=rW (K:=λout h=>out = .ret (.tu [fz (ic s t.id),.d (.bool (mX s t.id))])∧h=j6 s) s t.id hq ⟨rfl,rfl⟩;unfold ic mX at hg;cases hlk:bI t.id s.th with
   |none=>
    rw [hlk] at hg hk;refine sh0 Tryz.f72 ?_
    repeat' ((conv=>whnf);first | exact zf | refine (bp (cC ?_):eZ _ (eZ (ky _ _ _ _ 16 _ _ _ _ _ _ _) _)) | refine zm ?_ | refine zc h1 ?_ | refine ⟨_,_,hg,?_⟩ | refine zt ?_ | refine zu ?_ | intro _)
    exact hk
   |some p=>
    obtain ⟨i,o⟩:=p;rw [hlk] at hg hk
    by_cases h6:o.k=6
    ·have hset:=λ{K:KT}=>ly (K:=K) s t.id i { o with v:=v,ex:=ex,dn:=true } o hlk rfl rfl (hqa i o hlk);dsimp only at hk;rw [ζ h6] at hk;refine sh0 Tryz.f72 ?_
     repeat' ((conv=>whnf);first | exact zf | refine (bp (cC ?_):eZ _ (eZ (ky _ _ _ _ 16 _ _ _ _ _ _ _) _)) | refine zm ?_ | refine zc h1 ?_ | refine ⟨_,_,hg,?_⟩ | refine zr0 ?_ | refine (hset ?_) | refine zt ?_ | refine zu ?_ | intro _)
     exact hk
    ·simp only [h6,ψ] at hk;refine sh0 Tryz.f72 ?_
     repeat' ((conv=>whnf);first | exact zf | refine (bp (cC ?_):eZ _ (eZ (ky _ _ _ _ 16 _ _ _ _ _ _ _) _)) | refine zm ?_ | refine zc h1 ?_ | refine ⟨_,_,hg,?_⟩ | refine zt ?_ | refine zu ?_ | intro _)
     exact hk
  ·have hyes:t.st≠3∧t.st≠4:=⟨h30,h3⟩
   rw [ζ hyes] at hk;refine sh0 Tryz.f72 ?_
   repeat' ((conv=>whnf);first | exact zf | refine zm ?_ | refine zc h1 ?_ | refine zt ?_ | refine zu ?_ | intro _)
   exact hk
theorem Gg {K:KT} (c:Ca) (s:b8) (k:Co) (code:Int) (hf:k.fr.length<1000000000) (hst:k.st.length<1000000000) (hqa:∀i o,bI c.t.id s.th=some (i,o)→o.va.q.length<100000000) (hk:K (.ret (.tu [])) (Wc (lB c s k code))) :
  Z1 75 [.p 0 0,gp k,.d (.int .i64 code)] (Wd c s) K:=by
 have h1:=sH k code c.tr hf hst;unfold lB at hk;generalize raise k code c.tr=r at h1 hk;have h2:=λ{K:KT}=>FC (K:=K) { c with t:={ c.t with c:=r.1 } } s r.2.v true hqa;cases hb:r.2.k==2 with
 |true=>
  simp only [hb,δ] at hk;refine sh0 Tryz.f75 ?_
  repeat' ((conv=>whnf);first | exact zf | refine zm ?_ | refine zc h1 ?_ | refine zr0 ?_ | refine (h2 ?_) | refine zt ?_ | refine zu ?_ | intro _)
  exact hk
 |false=>
  simp only [hb,ε] at hk;refine sh0 Tryz.f75 ?_
  repeat' ((conv=>whnf);first | exact zf | refine zm ?_ | refine zc h1 ?_ | refine zt ?_ | refine zu ?_ | intro _)
  exact hk
def EM (t:Th) (s:b8) (n:Int):Rs:=KY (lB (ll ⟨[],[]⟩ (vL t []) 0) s (vL t []).c n)
theorem G9 {K:KT} (t:Th) (s:b8) (v:Va) (hf:t.c.fr.length<1000000000) (hst:t.c.st.length<1000000000) (hq:wY s t.id) (hk:K (.ret (.tu [eo (EM t s v.n).t,sA ((EM t s v.n).e.ef (EM t s v.n).d)])) (j6 (EM t s v.n).s)) :
  Z1 36 [eo t,.p 0 0,jl v,.d (.bool true)] (j6 s) K:=by
 have h1:=xU t;have h2:=PL t [] (by decide) hst;have h3:=λ{K:KT}=>Gg (K:=K) (ll ⟨[],[]⟩ (vL t []) 0) s (vL t []).c v.n hf (by show (t.c.st ++ []).length<_;rw [cU];exact hst) hq;refine sh0 Tryz.f36 ?_
 repeat' ((conv=>whnf);first | exact zf | refine (c_ (c_ ?_)) | refine zm ?_ | refine zc h1 ?_ | refine zc h2 ?_ | refine zr0 ?_ | refine (h3 ?_) | refine zt ?_ | refine zu ?_ | refine And.intro ?_ ?_ | intro _)
 all_goals exact hk
def a1:Lb:=⟨[1],[]⟩
def B6:Lb:=⟨[0],[]⟩
def Wa:List Op:=[⟨2,0⟩,⟨1,0⟩,⟨29,0⟩,⟨30,0⟩,⟨1,1⟩,⟨41,0⟩,⟨2,0⟩,⟨18,0⟩]
def qE:Im:=⟨[rQ a1,rQ oV],[⟨1,0,Wa⟩]⟩
def x5 (pc:Int) (st:List Va):Co:=⟨[⟨0,pc,0,0,[num 5]⟩],st,[]⟩
def PW:Th:=yj [48] ⟨oV,B6⟩ (x5 0 []) 1
def uv (b:Option Nat):b8:=qP eS [0,0] (TV 3 a1 (num 5)) b
def V3:Va:=⟨3,0,cR [0,0],[1],[]⟩
def S9:Nat→SS
 |0=>λ_=>(PW,eS)
 |1=>λ_=>({ PW with c:=x5 1 [num 5] },eS)
 |2=>λ_=>({ PW with c:=x5 2 [num 5,rQ a1] },eS)
 |3=>λb=>({ PW with c:=x5 3 [V3],ma:=1,ro:=0 },uv b)
 |4=>λb=>({ PW with c:=x5 4 [num 5],ma:=1,ro:=0,g:=⟨a1,B6⟩ },uv b)
 |_=>λb=>({ PW with c:=x5 5 [num 5,rQ oV],ma:=1,ro:=0,g:=⟨a1,B6⟩ },uv b)
def u9 (b:Option Nat):Th×b8:=({ PW with c:=x5 5 [num 5,rQ oV],ma:=1,ro:=0,g:=⟨a1,B6⟩,st:=4,v:=num (-3),ex:=true },uv b)
theorem do9_0 (now:Int) (b b':Option Nat):FH qE (S9 0 b).1 (S9 0 b).2 now b'=⟨(S9 1 b).1,.no,false,(S9 1 b).2⟩:=by rfl
theorem do9_1 (now:Int) (b b':Option Nat):FH qE (S9 1 b).1 (S9 1 b).2 now b'=⟨(S9 2 b).1,.no,false,(S9 2 b).2⟩:=by rfl
theorem do9_2 (now:Int) (b b':Option Nat):FH qE (S9 2 b).1 (S9 2 b).2 now b'=⟨(S9 3 b').1,.no,false,(S9 3 b').2⟩:=zx0
theorem do9_3 (now:Int) (b b':Option Nat):FH qE (S9 3 b).1 (S9 3 b).2 now b'=⟨(S9 4 b).1,.no,false,(S9 4 b).2⟩:=zx0
theorem do9_4 (now:Int) (b b':Option Nat):FH qE (S9 4 b).1 (S9 4 b).2 now b'=⟨(S9 5 b).1,.no,false,(S9 5 b).2⟩:=zx0
theorem do9_5 (now:Int) (b b':Option Nat):FH qE (S9 5 b).1 (S9 5 b).2 now b'=⟨(u9 b).1,.no,true,(u9 b).2⟩:=zx0
theorem do9_6 (now:Int) (b b':Option Nat):FH qE (u9 b).1 (u9 b).2 now b'=⟨(u9 b).1,.no,false,(u9 b).2⟩:=by rfl
theorem VE (b:Option Nat):EM ⟨[49],[],TX,c00,[],0,0,1,[48],de,false⟩ (uv b) 3=⟨⟨[49],[],TX,c00,[],0,0,4,[],num 3,true⟩,.no,true,uv b⟩:=zx0
theorem XI (i:Nat) (hi:i<5) (now:Int) (b b':Option Nat):∃b'',FH qE (S9 i b).1 (S9 i b).2 now b'=⟨(S9 (i+1) b'').1,.no,false,(S9 (i+1) b'').2⟩:=by
 match i,hi with
 |0,_=>exact ⟨b,do9_0 now b b'⟩
 |1,_=>exact ⟨b,do9_1 now b b'⟩
 |2,_=>exact ⟨b',do9_2 now b b'⟩
 |3,_=>exact ⟨b,do9_3 now b b'⟩
 |4,_=>exact ⟨b,do9_4 now b b'⟩
theorem TR (pc:Int) (st:List Va) (hst:st.length≤3) (hsm:∀v∈st,cI (bE v)) (o:Op) (hfit:fit qE (x5 pc st)=some o) (ho:o.c≠24∧o.c≠31):Rf qE (x5 pc st) where
 hI:=⟨λi g hg=>by
  match i,hg with
  |0,hg=>cases hg;exact (show e8 .i64 1 from ⟨by decide,by decide⟩)⟩
 cd:=λi g hg=>by
  match i,hg with
  |0,hg=>
   cases hg;exact (show Wa.length<1000000000 by decide)
 lf:=show 1<_ by decide
 ls:=by show st.length<_;omega
 lt:=show 0<_ by decide
 ma:=λf hf=>by cases hf;exact (show ((0:Int)≤0∧(0:Int)≤255)∧[num 5].length<1000000000 from ⟨⟨by decide,by decide⟩,by decide⟩)
 sm:=hsm
 dm:=λo' h'=>by rw [hfit] at h';cases h';exact ho
theorem QO (pc:Int) (st:List Va) (o:Op) {t:Th} {s:b8} {now:Int} (ht:t.c=x5 pc st) (hsc:t.sc = []) (hst:st.length≤3) (hsm:∀v∈st,cI (bE v)) (hfit:fit qE (x5 pc st)=some o) (ho:o.c≠24∧o.c≠31) (hfw:MU o.c=true)
  (hr:(eF qE (x5 pc st) 0 0).2.k≠3) (hq:∀p∈s.th,p.2.va.q.length<100000000):L7 qE t s now:=by
 have e:bS t=HP:=by unfold bS;rw [hsc];rfl
 refine ⟨by rw [ht];exact CR (TR pc st hst hsm o hfit ho) hfit hfw,by rw [ht];exact (show 1<_ by decide),by rw [ht];show st.length<_;omega,ou hq,λh=>?_⟩;rw [ht,e] at h;exact absurd h hr
theorem QP (pc:Int) (st:List Va) (o:Op) {t:Th} {s:b8} {now:Int} (ht:t.c=x5 pc st) (hst:st.length≤3) (hsm:∀v∈st,cI (bE v)) (hfit:fit qE (x5 pc st)=some o) (ho:o.c≠24∧o.c≠31) (hfw:MU o.c=true)
  (hq:∀p∈s.th,p.2.va.q.length<100000000) (h:(eF qE t.c (bS t).fr (bS t).tr).2.k=3→∃o f i F,eF qE t.c (bS t).fr (bS t).tr=(t.c,⟨3,zeroV,o⟩)∧t.c.fr.getLast? = some f∧inf o.c=some i∧fJ t.c i.po=true∧(0≤f.pc∧f.pc<1000000000)∧Db o.c F∧Nat.blt F 5000000=true ∧
  (∀{K:KT},(Fb (jI (ll qE t now) o f i.po) s).K K→Z1 F [.p 0 0] (e7 (jI (ll qE t now) o f i.po) s) K)∧∀n c' s',Fb (jI (ll qE t now) o f i.po) s = .ex n c' s'→wY s' c'.t.id):L7 qE t s now:=
 ⟨by rw [ht];exact CR (TR pc st hst hsm o hfit ho) hfit hfw,by rw [ht];exact (show 1<_ by decide),by rw [ht];show st.length<_;omega,ou hq,h⟩
theorem U3:cI (bE (num 5)):=⟨show 0≤_ by decide,show 0≤_ by decide⟩
theorem SI:cI a1:=⟨show 1≤_ by decide,show 0≤_ by decide⟩
theorem U2:cI oV:=⟨show 0≤_ by decide,show 0≤_ by decide⟩
theorem Uw:cI B6:=⟨show 1≤_ by decide,show 0≤_ by decide⟩
theorem A_ {b:Option Nat}:∀p∈(uv b).th,p.2.va.q.length<100000000:=λp hp=>by
 rw [aM.1 hp];exact (show (0:Nat)<100000000 by decide)
theorem Ur:cR [0] = [48]:=zx0
theorem XD (q:Ca) (h1:q.t.pa = [48]) (h2:q.t.ma=0) (h3:q.t.ro=1) (h4:q.t.g=⟨oV,B6⟩) (h5:q.t.c.st.length<1000000000):QL q eS (TV 3 a1 (num 5)):=by
 have hu:jt q.t.pa 0 = [0]:=by rw [h1];rfl
 refine ⟨⟨?_,?_,?_,?_,?_,?_,?_⟩,?_,SI,⟨by decide,λ_ h=>nomatch h⟩,by decide,by decide,by kernel_rfl,show (0:Nat)<_ by decide,rfl,h5⟩
 ·rw [hu,h1,Ur]
 ·rw [hu];decide
 ·rw [hu];decide
 ·rw [hu];decide
 ·rw [h2];decide
 ·rw [h2];decide
 ·rw [h3];decide
 ·rw [h4];exact ⟨U2,Uw⟩
theorem m1 {v:Va} (h:cI (bE v)):∀x∈[v],cI (bE x):=λx hx=>by rw [aM.1 hx];exact h
theorem m2 {v w:Va} (h:cI (bE v)) (h':cI (bE w)):∀x∈[v,w],cI (bE x):=λx hx=>by
 simp only [a8,cY,or_false] at hx;rcases hx with rfl | rfl
 ·exact h
 ·exact h'
theorem WY (i:Nat) (hi:i<6) (now:Int) (b:Option Nat):L7 qE (S9 i b).1 (S9 i b).2 now:=by
 match i,hi with
 |0,_=>exact QO 0 [] ⟨2,0⟩ rfl rfl (by decide) (λ_ h=>nomatch h) rfl ⟨by decide,by decide⟩ rfl (show (0:Int)≠3 by decide) λ_ h=>Ch h
 |1,_=>exact QO 1 [num 5] ⟨1,0⟩ rfl rfl (show 1≤3 by decide) (m1 U3) rfl ⟨by decide,by decide⟩ rfl (show (0:Int)≠3 by decide) λ_ h=>Ch h
 |2,_=>exact QP 2 [num 5,rQ a1] ⟨29,0⟩ rfl (show 2≤3 by decide) (m2 U3 SI) rfl ⟨by decide,by decide⟩ rfl (λ_ h=>Ch h) λ_=>⟨⟨29,0⟩,⟨0,2,0,0,[num 5]⟩,_,174,rfl,rfl,rfl,rfl,⟨by decide,by decide⟩,⟨_,rfl⟩,rfl,
  λh=>E5 _ _ (num 5) (rQ a1) rfl (XD _ rfl rfl rfl rfl (show 0<_ by decide)) h,λn c' s' h=>by rw [Av h];exact ou λ_ h=>Ch h⟩
 |3,_=>exact QP 3 [V3] ⟨30,0⟩ rfl (show 1≤3 by decide) (m1 SI) rfl ⟨by decide,by decide⟩ rfl A_ λ_=>⟨⟨30,0⟩,⟨0,3,0,0,[num 5]⟩,_,175,rfl,rfl,rfl,rfl,⟨by decide,by decide⟩,⟨_,rfl⟩,rfl,
  λh=>C9 _ _ V3 rfl (show 0<_ by decide) ⟨U2,Uw⟩ SI (Wr _ _) (ou A_) h,λn c' s' h=>by rw [Av h];exact ou A_⟩
 |4,_=>exact QO 4 [num 5] ⟨1,1⟩ rfl rfl (show 1≤3 by decide) (m1 U3) rfl ⟨by decide,by decide⟩ rfl (show (0:Int)≠3 by decide) A_
 |5,_=>exact QP 5 [num 5,rQ oV] ⟨41,0⟩ rfl (show 2≤3 by decide) (m2 U3 U2) rfl ⟨by decide,by decide⟩ rfl A_ λ_=>⟨⟨41,0⟩,⟨0,5,0,0,[num 5]⟩,_,185,rfl,rfl,rfl,rfl,⟨by decide,by decide⟩,⟨_,rfl⟩,rfl,
  λh=>Gv _ _ (num 5) (rQ oV) rfl ⟨SI,Uw⟩ U2 h,λn c' s' h=>by rw [Av h];exact ou A_⟩
def XG (p:Th×b8):H:=
  [.cells [.d (.str [1]), .d (.str [])], .cells [.d (.sl 5 (qE.cs.map cK)), .d (.sl 3 (qE.fs.map dw))], .cells [.d (.sl 5 ((x5 0 []).fr.map bU)), .d (.sl 5 ((x5 0 []).st.map cK)), .d (.sl 3 ((x5 0 []).tr.map eO))],
   .cells ((fC p.1).map .d),.cells [.mp 5,.mp 6],.dm (iy p.2.th),.ms 1 (kh p.2.nm) none none]
theorem do34_9 {K:KT} (i:Nat) (hi:i<5) (b:Option Nat) (hk:∀b'',K (.ret (.tu [eo (S9 (i+1) b'').1,sA (Fx.ef .no false)])) (j6 (S9 (i+1) b'').2)):Z1 34 [xm qE,eo (S9 i b).1,.p 0 0,.d (.int .i64 i)] (j6 (S9 i b).2) K:=by
 refine Qv qE _ _ i (λ_=>WY i (by omega) i b) λb'=>?_;obtain ⟨b'',e⟩:=XI i hi i b b';rw [e];exact hk b''
theorem do34_5 {K:KT} (b:Option Nat) (hk:K (.ret (.tu [eo (u9 b).1,sA (Fx.ef .no true)])) (j6 (uv b))):Z1 34 [xm qE,eo (S9 5 b).1,.p 0 0,.d (.int .i64 9)] (j6 (uv b)) K:=by
 refine Qv qE (S9 5 b).1 (S9 5 b).2 9 (λ_=>WY 5 (by omega) 9 b) λb'=>?_;rw [do9_5];exact hk
theorem do34_6 {K:KT} (b:Option Nat) (hk:K (.ret (.tu [eo (u9 b).1,sA (Fx.ef .no false)])) (j6 (uv b))):Z1 34 [xm qE,eo (u9 b).1,.p 0 0,.d (.int .i64 9)] (j6 (uv b)) K:=by
 refine Qv qE (u9 b).1 (u9 b).2 9 (λh=>absurd h (show ¬(4:Int)=0 by decide)) λb'=>?_;rw [do9_6];exact hk
def Uu:Th:=⟨[49],[],TX,c00,[],0,0,1,[48],de,false⟩
theorem SU {K:KT} (b:Option Nat) (hk:K (.ret (.tu [eo ⟨[49],[],TX,c00,[],0,0,4,[],num 3,true⟩,sA (Fx.ef .no true)])) (j6 (uv b))):Z1 36 [eo Uu,.p 0 0,jl (num 3),.d (.bool true)] (j6 (uv b)) K:=by
 refine G9 Uu (uv b) (num 3) (by decide) (by decide) (ou A_) ?_;rw [show EM Uu (uv b) (num 3).n=_ from VE b];exact hk
theorem Nb (b:Option Nat):bI [48,46,48] (uv b).th=some (0,TV 3 a1 (num 5)):=zx0
theorem V5 {K:KT} (b:Option Nat) (hk:K (.ret (.tu [fz (TV 3 a1 (num 5)),.d (.bool true)])) (j6 (uv b))):Z1 16 [.p 0 0,.d (.str [48,46,48])] (j6 (uv b)) K:=by
 have e:ic (uv b) [48,46,48]=TV 3 a1 (num 5):=by unfold ic;rw [Nb];rfl
 have e2:mX (uv b) [48,46,48]=true:=by unfold mX;rw [Nb];rfl
 refine rW (uv b) [48,46,48] (by rw [e];decide) ?_;rw [e,e2];exact hk
theorem FF:Z0 9 [] (.d (.bool true)):=by
 have e20:Z0 20 [gp c00,.d (.int .i64 0),.d (.int .i64 0),.d (.sl 5 ([num 5].map cK)),.d (.int .u8 0)] (.tu [gp (x5 0 []),.d (.bool true)]):=kj c00 0 0 [num 5] 0 (by decide) (by decide);refine s9.go (keep:=false) rfl ?_
 repeat' ((conv=>whnf);first | exact zf | refine zm ?_ | refine zc (pf 5) ?_ | refine zc e20 ?_ | refine zc Qg ?_ | refine zc (HY [48] ⟨oV,B6⟩ (x5 0 []) 1) ?_ | refine (N9 ?_) | intro _)
 conv=>whnf
 refine bN [(1,.p 0 0),(2,.p 1 0),(5,.p 3 0),(6,.p 4 0)] (λq:Nat×Option Nat=>q.1≤5) (λq=>[(7,.d (.int .i64 0)),(8,.d (.int .i64 q.1))]) (λq=>XG (S9 q.1 q.2)) (λq=>5 - q.1) (0,none) (ah _) ?_ ?_ ?_ (λq hq=>?_)
 ·exact zzz
 ·exact zzz
 ·exact zx0
 obtain ⟨i,b⟩:=q;have hq:i≤5:=hq
 by_cases hi:i<5
 ·skip
  repeat' ((conv=>whnf);first | exact zf | refine zm ?_ | refine zr0 ?_ | refine (do34_9 i hi b (λb''=>?_)) | refine zt ?_ | refine zu ?_ | intro _)
  exact ⟨(i+1,b''),hi,(by show 5 - (i+1)<5 - i;omega),zzz,zzz,rfl⟩
 ·have hi5:i=5:=by omega
  subst hi5
  repeat' ((conv=>whnf);first | exact zf | refine zm ?_ | refine ⟨cK (num 5),⟨by omega,rfl,rfl⟩,?_⟩ | refine zr0 ?_ | refine (V5 b ?_) | refine (do34_5 b ?_) | refine (do34_6 b ?_) | refine (SU b ?_) | refine zc (pf 3) ?_ | refine zc (pf 5) ?_ | refine zc (pf (-3)) ?_ | refine zt ?_ | refine zu ?_ | intro _)
section
variable {mx:Int} {q n:Nat} {t:Th} {s:b8} {now:Int} {b:Option Nat}
def Ni:Fx→Bool
 |.log _=>true
 |_=>false
end
section
variable {mx:Int} {q n:Nat} {t:Th} {s:b8} {now:Int} {b:Option Nat}
theorem py {key k:List UInt8} {o x:Ob}:∀{l:List (List UInt8×Ob)} {i:Nat},bI key (l ++ [(k,o)])=some (i,x)→bI key l=some (i,x)∨(x=o∧key=k)
  |[],i,h=>by
    have h':(if key=k then some (0,o) else none)=some (i,x):=h
    by_cases hk:key=k
    · rw [ζ hk,aE,bW] at h'
      exact .inr ⟨h'.2.symm,hk⟩
    · rw [η hk] at h';cases h'
  |p :: l,i,h=>by
    have h':(if key=p.1 then some (0,p.2) else (bI key (l ++ [(k,o)])).map λx=>(x.1+1,x.2))=some (i,x):=h
    show (if key=p.1 then some (0,p.2) else (bI key l).map λx=>(x.1+1,x.2))=some (i,x)∨_
    by_cases hk:key=p.1
    · rw [ζ hk] at h' ⊢;exact .inl h'
    · rw [η hk] at h' ⊢
      cases hl:bI key (l ++ [(k,o)]) with
      |none=>rw [hl] at h';cases h'
      |some y=>
        obtain ⟨j,y⟩:=y
        rw [hl] at h'
        simp only [bA,aE,bW] at h'
        obtain ⟨rfl,rfl⟩:=h'
        rcases py hl with h1 | h1
        · rw [h1];exact .inl rfl
        · exact .inr h1
theorem uz {key:List UInt8} {kp:List Nat} {o x:Ob} {i:Nat} (h:bI key (iE s kp o b).th=some (i,x)):bI key s.th=some (i,x)∨(x=o∧key=cR kp):=by
 unfold iE at h;cases hb:kf o.l&&(bI (cR kp) s.th).isNone with
 |false=>rw [hb] at h;exact .inl h
 |true=>rw [hb] at h;exact py h
theorem LU (a b:Lb):fL a b 0=ao a b:=by
 have h0:∀x,x<64→wc (HM 0) x=true:=λx hx=>aT.1 (show ((List.range 64).all λx=>wc (HM 0) x)=true by kernel_rfl) x (cV.2 hx);unfold fL ao;rw [eA,aP,aP,gO,gO,gO,gO];simp only [CT];constructor
 ·rintro ⟨h1,h2⟩
  exact ⟨λx hx h=>h1 x hx (by rw [h,h0 x hx];rfl),λx hx h=>h2 x hx (by rw [h,h0 x hx];rfl)⟩
 ·rintro ⟨h1,h2⟩
  refine ⟨λx hx h=>h1 x hx ?_,λx hx h=>h2 x hx ?_⟩<;>· rw [aP] at h;exact h.1
theorem Lc {g h:Gs} {x:En} (H:ND g 0 x h):False:=by
 rcases H.2 with ⟨_,_,h1,_,h2⟩ | ⟨_,_,h1,_,h2⟩<;>· rw [LU,h2] at h1;cases h1
def mq (m:Lb) (l:List (List UInt8×Ob)):List (List UInt8×Ob):=l.filter λp=>ao p.2.l m
theorem CK {m:Lb} {nm:List UInt8} {o p:Ob}:∀{l:List (List UInt8×Ob)} {i:Nat},bI nm l=some (i,o)→ao o.l m=false→ao p.l m=false→mq m (l.set i (nm,p))=mq m l
 |[],i,h,_,_=>by cases h
 |x :: l,i,h,ho,hp=>by
  have h':(if nm=x.1 then some (0,x.2) else (bI nm l).map λx=>(x.1+1,x.2))=some (i,o):=h;unfold mq
  by_cases hk:nm=x.1
  ·rw [ζ hk,aE,bW] at h';obtain ⟨rfl,rfl⟩:=h';rw [List.set_cons_zero,List.filter_cons_of_neg (by rw [hp];decide),List.filter_cons_of_neg (by rw [ho];decide)]
  ·rw [η hk] at h';cases hl:bI nm l with
   |none=>rw [hl] at h';cases h'
   |some y=>
    obtain ⟨j,o'⟩:=y;rw [hl] at h';simp only [bA,aE,bW] at h';obtain ⟨rfl,rfl⟩:=h';rw [List.set_cons_succ,ik,ik];have:=CK hl ho hp;unfold mq at this;rw [this]
theorem sd {m:Lb} {kp:List Nat} {o:Ob} (h:ao o.l m=false):mq m (iE s kp o b).th=mq m s.th:=by
 unfold iE;cases kf o.l&&(bI (cR kp) s.th).isNone
 ·rfl
 ·rw [δ];unfold mq qP;rw [List.filter_append,List.filter_cons_of_neg (by rw [h];decide)];simp
structure HI (m:Lb) (q n:Nat) (t:Th) (s:b8):Prop where
  th:gf 0 n t
  so:gN 0 q n s
  own:Own t
  id:t.id = [51]
  cur:ao t.g.cur m=false
  sc:∀x∈t.sc,ao x.g.cur m=false∧ao x.g.cur x.l=true
  no:bI [51] s.th=none
theorem iA {a c m:Lb} (h:ao a m=false) (h1:ao a c=true):ao c m=false:=by
 cases hc:ao c m with
 |false=>rfl
 |true=>rw [zR h1 hc] at h;cases h
theorem rA {nm:List UInt8} (h:rB nm):nm≠[51]:=by
 obtain ⟨p,e,hp,hg⟩:=h
 rintro rfl
 have h1:=pV hg.1 hg.2.2;rw [←e] at h1;have h2:jt [51] 0 = [3]:=rfl;rw [h2] at h1;cases h1;exact hp rfl
theorem lD {kp:List Nat} {o:Ob} (h:bI [51] s.th=none) (hk:cR kp≠[51]):bI [51] (iE s kp o b).th=none:=by
 cases hl:bI [51] (iE s kp o b).th with
 |none=>rfl
 |some y=>
  obtain ⟨i,x⟩:=y;rcases uz hl with h1 | ⟨_,h1⟩
  ·rw [h] at h1;cases h1
  ·exact absurd h1.symm hk
structure ue (m:Lb) (q n:Nat) (s:b8) (e:Fx) (t':Th) (s':b8):Prop where
  hi:HI m q n t' s'
  UW:mq m s'.th=mq m s.th
  log:Ni e=false
  out:∀x,e = .out x→ao x.l m=false
  fork:∀x,e = .fork x→ao x.g.cur m=false∧x.sc = []
theorem jJ.id {ma:Int} {e:Fx} {t':Th} {s':b8} (D:jJ now mx q n t ma s b e t' s'):t'.id=t.id:=by cases D<;>rfl
theorem jJ.AX {m:Lb} {ma:Int} {e:Fx} {t':Th} {s':b8} (h:HI m q n t s) (hma:ma=0) (D:jJ now 0 q n t ma s b e t' s'):ue m (q+1) (n+1) s e t' s':=by
 obtain ⟨k1,k2⟩:=D.keep h.th h.so (dT _);obtain ⟨o1,_,_⟩:=D.made h.th h.own;have hid:=D.id.trans h.id;obtain ⟨p,hp⟩:=h.th.pa;cases D with
 |go g k st on hg _ _=>exact ⟨⟨k1,k2,o1,hid,iA h.cur hg.up.1,h.sc,h.no⟩,rfl,rfl,λx hx=>(by cases hx),λx hx=>by cases hx⟩
 |log x g hl _=>subst hma;exact absurd hl Lc
 |out x hf _ _ _=>exact ⟨⟨k1,k2,o1,hid,h.cur,h.sc,h.no⟩,rfl,rfl,λy hy=>(by cases hy;exact iA h.cur hf),λx hx=>by cases hx⟩
 |set e g j nm o w k st on h1 _ _ hpl _ hfl hfc hg _ _ he=>
  have ho:=iA h.cur hfl;have hc:ao g.cur m=false:=by
   rcases hg with rfl | rfl
   ·exact h.cur
   ·show ao (fA o.l) m=false;rw [qJ];exact ho
  have hne:[51]≠nm:=by
   rintro rfl
   rw [h.no] at h1;cases h1
  refine ⟨⟨k1,k2,o1,hid,hc,h.sc,?_⟩,CK h1 ho (by rw [hpl];exact ho),?_,λx hx=>?_,λx hx=>?_⟩
  ·exact (oW h1 hne).trans h.no
  all_goals rcases he with rfl | ⟨_,rfl,_⟩
  ·rfl
  ·rfl
  all_goals cases hx
 |make o k hf _ hr _ _ _=>
  have ho:=iA h.cur hf;exact ⟨⟨k1,k2,o1,hid,h.cur,h.sc,lD h.no (rA (h.own.kp hp hr).1)⟩,sd ho,rfl,λx hx=>(by cases hx),λx hx=>by cases hx⟩
 |fork l ro k d hf _ _ hr0 hr _ _=>
  have ho:=iA h.cur hf;exact ⟨⟨k1,k2,o1,hid,h.cur,h.sc,lD h.no (rA (h.own.kp hp (by omega)).1)⟩,sd ho,rfl,λx hx=>(by cases hx),λx hx=>(by cases hx;exact ⟨h.cur,rfl⟩)⟩
 |scope l tk ro k hf _ _ _ _ _ _ _=>
  refine ⟨⟨k1,k2,o1,hid,h.cur,λx hx=>?_,h.no⟩,rfl,rfl,λx hx=>(by cases hx),λx hx=>by cases hx⟩;rcases aS.1 hx with h1 | h1
  ·exact h.sc x h1
  ·rw [aM.1 h1];exact ⟨h.cur,by show ao t.g.cur (fA l)=true;rw [qI];exact hf⟩
theorem l7.AX {m:Lb} {r:Rs} (h:HI m q n t s) (T:l7 now 0 q n t s b r):ue m (q+1) (n+2) s r.e r.t r.s:=by
 obtain ⟨k1,k2⟩:=T.keep h.th h.so (dT _);obtain ⟨o1,_,_⟩:=T.made h.th h.own;have hso:∀{s:b8},gN 0 (q+1) (n+1) s→gN 0 (q+1) (n+2) s:=λh=>⟨dI h.nm,λp hp=>⟨dI (h.ns p hp).1,(h.ns p hp).2⟩,h.th⟩
 have k2:=hso k2;cases T with
 |idle _=>exact ⟨⟨k1,k2,o1,h.id,h.cur,h.sc,h.no⟩,rfl,rfl,λx hx=>(by cases hx),λx hx=>by cases hx⟩
 |core g k _ hg _=>exact ⟨⟨k1,k2,o1,h.id,iA h.cur hg.up.1,h.sc,h.no⟩,rfl,rfl,λx hx=>(by cases hx),λx hx=>by cases hx⟩
 |fin g k v ex _ hg _ _=>
  have hb:(qp { t with g:=g,c:=k } s v ex).2=s:=by
   unfold qp;split
   ·rfl
   ·dsimp only;rw [h.id,h.no]
  dsimp only at k1 k2 o1 ⊢;rw [hb] at k2 ⊢;exact ⟨⟨k1,k2,o1,h.id,iA h.cur hg.up.1,h.sc,h.no⟩,rfl,rfl,λx hx=>(by cases hx),λx hx=>by cases hx⟩
 |FM k ma e t' s' _ hk hma D=>
  have hh:HI m q n { t with c:=k } s:=⟨⟨hk,h.th.g,h.th.pa,h.th.sc,h.th.sl,h.th.v⟩,h.so,⟨h.own.pa,h.own.sc⟩,h.id,h.cur,h.sc,h.no⟩
  have u:=D.AX hh (by omega);exact ⟨⟨k1,k2,o1,u.hi.id,u.hi.cur,u.hi.sc,u.hi.no⟩,u.UW,u.log,u.out,u.fork⟩
theorem HI.leave {m:Lb} (h:HI m q n t s) (now:Int) (b:Option Nat):HI m (q+1) (n+1) (dB t s now b).1 (dB t s now b).2∧mq m (dB t s now b).2.th=mq m s.th:=by
 obtain ⟨k1,k2⟩:=kE (now:=now) h.th h.so (dT _) b;obtain ⟨o1,_⟩:=BN (s:=s) h.th h.own now b;unfold dB at k1 k2 o1 ⊢;cases hi:t.sc[jF now t.sc]? with
 |none=>
  rw [hi] at k1 k2 o1;exact ⟨⟨k1,k2,o1,h.id,h.cur,h.sc,h.no⟩,rfl⟩
 |some x=>
  rw [hi] at k1 k2 o1;have hm:=aH hi;obtain ⟨h1,h2⟩:=h.sc x hm;have hb:=(h.own.sc x hm).1;rw [(h.th.sc x hm).SM.nm] at hb;exact ⟨⟨k1,k2,o1,h.id,h1,λy hy=>h.sc y (dR hy),lD h.no (rA hb)⟩,sd (o:=pG t (jF now t.sc) x) (iA h1 h2)⟩
theorem HI.step {m:Lb} {im:Im} (hP:tT im) (hn:n<30000000) (h:HI m q n t s) (b b':Option Nat) :
  ue m (q+2) (n+3) s (nD im now b b' t s).e (nD im now b b' t s).t (nD im now b b' t s).s:=by
 obtain ⟨h1,h2⟩:=h.leave now b;have u:=l7.AX h1 (ot hP h.th h.so (dT _) (by decide) (by omega) b b');exact ⟨u.hi,u.UW.trans h2,u.log,u.out,u.fork⟩
end
def td (d:List Op):Prop:=∀o∈d,o.c≠24∧o.c≠31
theorem kC {a b:List Op} (ha:td a) (hb:td b):td (a++b):=λo ho=>(aS.1 ho).elim (ha o) (hb o)
theorem eY {c a:Int} {b:List Op} (h:c≠24∧c≠31) (hb:td b):td (⟨c,a⟩ :: b):=λo ho=>by
 rcases a8.1 ho with e | e
 ·rw [e];exact h
 ·exact hb o e
theorem iR:td []:=λo ho=>by cases ho
theorem NA.low {h h':Int} {d:List Op} (H:NA h d h'):td d:=by
 induction H with
 |nil=>exact iR
 |cons _ hc _ _ _ _ ih=>
  refine eY ⟨?_,?_⟩ ih
  ·rintro rfl;cases hc
  ·rintro rfl;cases hc
theorem vJ.low {d:List Op} (h:vJ d):td d:=by
 rcases h with h | ⟨n,_,_,rfl⟩
 ·exact h.1.low
 ·exact eY ⟨by decide,by decide⟩ (eY ⟨by decide,by decide⟩ iR)
theorem Part.low {b:Int} {p:List Op} (h:Part b p):td p:=by
 obtain ⟨d,hd,h⟩:=h;have l:=hd.low;rcases h with rfl | rfl | ⟨_,rfl⟩ | ⟨_,rfl⟩
 ·exact l
 ·exact kC (eY ⟨by decide,by decide⟩ (eY ⟨by decide,by decide⟩ iR)) l
 ·exact kC (kC (eY ⟨by decide,by decide⟩ iR) l) (eY ⟨by decide,by decide⟩ iR)
 ·exact kC (kC (eY ⟨by decide,by decide⟩ iR) l) (eY ⟨by decide,by decide⟩ (eY ⟨by decide,by decide⟩ (eY ⟨by decide,by decide⟩ iR)))
theorem nY.low {c:List Op} {k:Nat} (h:nY c k):td c∧c.length≤12*k:=by
 induction h with
 |nil=>exact ⟨iR,ah _⟩
 |snoc _ hp ih=>exact ⟨kC ih.1 hp.low,by have:=ih.2;have:=hp.len;rw [aL];omega⟩
theorem rE.low {f:Fn} (h:rE f):td f.code∧f.code.length≤146:=by
 obtain ⟨_,_,p,k,n,hp,_,hk,_,_,e⟩:=h;rw [e];refine ⟨kC hp.low.1 (eY ⟨by decide,by decide⟩ (eY ⟨by decide,by decide⟩ iR)),?_⟩;have:=hp.low.2;rw [aL];show _+2≤_;omega
theorem M8:∀v∈M9,cI (bE v):=by
 intro v hv;rcases aS.1 hv with h | h
 ·obtain ⟨x,_,rfl⟩:=bF.1 h;exact gw x
 ·obtain ⟨x,hx,rfl⟩:=bF.1 h;have h2:x.s.length≤2∧x.i.length≤2:=by
   have:vA.all (λl=>decide (l.s.length≤2)&&decide (l.i.length≤2))=true:=zx0
   have:=aT.1 this x hx;simpa using this
  exact And.intro (aZ h2.1 (by decide)) (aZ h2.2 (by decide))
theorem xp.pr {im:Im} (h:xp im):tT im where
 hI:=⟨λi g hg=>by rw [(h.2.2 g (aH hg)).1];unfold e8;decide⟩
 ar:=λg hg=>by rw [(h.2.2 g hg).1];decide
 cd:=λg hg=>by have:=(h.2.2 g hg).low.2;omega
 dm:=λg hg=>(h.2.2 g hg).low.1
 cs:=by rw [h.1];exact M8
theorem Kx {K:KT} {mx:Int} {q n:Nat} (im:Im) (t:Th) (s:b8) (now:Int) (hP:tT im) (ht:gf mx n t) (hs:gN mx q n s) (h0:0≤mx) (hx:mx≤255) (hn:n<40000000) (hq:q<80000000) (hw:0≤now∧now<1000000000)
  (hk:∀b b',K (.ret (sA ((nD im now b b' t s).e.ef (nD im now b b' t s).d))) (AS im (nD im now b b' t s).t (nD im now b b' t s).s)) :
  Z1 12 [.p 0 0,.d (.int .i64 now)] (AS im t s) K:=by
 have h1:=λb=>kE (now:=now) ht hs h0 b;refine Kz im t s now ht.g.1 (by have:=ht.sl;omega) (by have:=ht.co.st;omega) (λsc hsc=>(ht.sc sc hsc).SM) ⟨by have:=hs.nm;omega,λp hp=>⟨by have:=(hs.ns p hp).1;omega,(hs.ns p hp).2⟩⟩ (λb _=>?_) hk;exact (h1 b).1.T hP (h1 b).2 hx hw (by omega) (by omega)
theorem Ky {K:KT} {mx:Int} {q n:Nat} (im:Im) (t:Th) (s:b8) (now:Int) (hP:tT im) (ht:gf mx n t) (hs:gN mx q n s) (h0:0≤mx) (hx:mx≤255) (hn:n<40000000) (hq:q<80000000) (hw:0≤now∧now<1000000000)
  (hk:∀b b' r E,r=nD im now b b' t s→E=r.e.ef r.d→K (.ret (sA E)) (AS im r.t r.s)) :
  Z1 12 [.p 0 0,.d (.int .i64 now)] (AS im t s) K:=
 Kx im t s now hP ht hs h0 hx hn hq hw λb b'=>hk b b' _ _ rfl rfl
def Uo (im:Im) (x:Dm) (t:Th) (s:b8):H:=[.cells (qN x),.cells ([.d (.sl 5 (im.cs.map cK)),.d (.sl 3 (im.fs.map dw)),.p 2 0]++(fC t).map .d),.cells [.mp 3,.mp 4],.dm (iy s.th),.ms 1 (kh s.nm) none none]
theorem Hi (i:Int):cI ((gg[i.toNat]?).getD oV):=by
 cases h:gg[i.toNat]? with
 |none=>exact lv
 |some l=>exact sP l (aH h)
theorem Mt (ar:Int):cI (bE (mN ar)):=by
 unfold mN;cases decide (60<ar)
 ·exact lv
 ·exact Hi _
theorem KE (mx:Int) (x:Dm) (hx:tQ x) (hm:x.mz.tmod 4≤mx):gf mx 1 (xf x) where
 co:=by
  have hm2:x.mz.tmod 4=x.mz % 4:=bD hx.mz.1;exact ((okCo_0 mx 0).enter rfl (x.fn.tmod 3) 7 [mN x.ar] (x.mz.tmod 4) (show 1≤20 by decide) (λv hv=>by rw [aM.1 hv];exact Mt _) (by omega)).mono (ah _)
 g:=And.intro (Hi _) (wX _ _)
 pa:=⟨[3],PS.symm,by decide,by decide,dT _,by
  have hr:x.ro.tmod 16=x.ro % 16:=bD hx.ro.1;show 0≤x.ro.tmod 16;rw [hr];omega,by
  have hr:x.ro.tmod 16=x.ro % 16:=bD hx.ro.1;show 0+x.ro.tmod 16≤15;rw [hr];omega,by
  have hr:x.ro.tmod 16=x.ro % 16:=bD hx.ro.1;show ((1:Nat):Int)+x.ro.tmod 16≤16;rw [hr];omega⟩
 sc:=λs hs=>by cases hs
 sl:=ah _
 v:=oT
theorem Tb {s:b8} (h:∀p∈s.th,p.1∈gz):bI [51] s.th=none:=by
 cases hl:bI [51] s.th with
 |none=>rfl
 |some p=>
  obtain ⟨i,o⟩:=p;have h1:=h _ (aH (sO hl));have:([51]:List UInt8)∉gz:=by decide
  exact absurd h1 this
end Go.Proofs.YtjpgfgajkjhonaaGreatDoor