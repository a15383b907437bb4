/- Lemmas. Conditions: none. -/
import Derived.Test.YtjpgfgajkjhonaaGreatDoorQHBK
namespace Go.Proofs.YtjpgfgajkjhonaaGreatDoor
open Go.Vx
set_option maxRecDepth 100000
open Go.ChangeShapes Go.WideShapes Go.ChangeAt Go.RowKit
set_option maxRecDepth 100000 in
theorem oh (H:Type) (enc:TypeId×Value→H) (W:World) (base:Nat) (args:Array Value) (ds gs:List (DataW H)) (before:List MemPlace)
  (hval:∀(j:Nat) t v,Tryz.f6.params[j]? = some t→args[j]? = some v→Value.okWide Tryz.prog W .any base t v)
  (hW:DataW.Whole enc Tryz.prog Tryz.f6.params.toList Rows.sysHiddenSpec.vars false W args.toList ds gs before) (hk:Rows.uptoSmall H (ds++gs)=true) (hL:laidMetH Tryz.prog Rows.sysHiddenUptoRow.laid W) :
  Calls Tryz.prog 6 args W λe W'=>∃v,e = .returned v∧Rows.sysHiddenSpec.post enc Tryz.prog Tryz.f6 false true false false W args v W':=by
 have hW':=hW;obtain ⟨p,q,hA0,hV,rfl,hfz,hnd⟩:=hW;have hA:DataW.TrodAll enc Tryz.prog W 0 (λ_=>true) true Tryz.f6.params.toList args.toList ds p:=hA0;rw [Tryz.params6] at hA hval;obtain ⟨v0,vs0,d0,ds0,p0,q0,hargs,rfl,rfl,h0,r0⟩:=trodAll_cons hA;obtain ⟨v1,vs1,d1,ds1,p1,q1,rfl,rfl,rfl,h1,r1⟩:=trodAll_cons r0;obtain ⟨v2,vs2,d2,ds2,p2,q2,rfl,rfl,rfl,h2,r2⟩:=trodAll_cons r1;obtain ⟨v3,vs3,d3,ds3,p3,q3,rfl,rfl,rfl,h3,r3⟩:=trodAll_cons r2;obtain ⟨v4,vs4,d4,ds4,p4,q4,rfl,rfl,rfl,h4,r4⟩:=trodAll_cons r3;obtain ⟨rfl,rfl,rfl⟩:=trodAll_nil r4;obtain rfl:args = #[v0,v1,v2,v3,v4]:=by cases args;simp_all
 obtain ⟨rfl,rfl⟩:=trodVars_none hV;have hb:=P4 hk;simp only [Rows.uptoBulkAll,cU] at hb;obtain ⟨rows0,s0,t0⟩:=C7 (N:=1048576) Rw Tryz.underlying22 (hval 0 22 v0 rfl rfl) h0 (.inr (by omega));obtain ⟨n0,rfl,i0⟩:=P6 s0;obtain ⟨rows1,s1,t1⟩:=C7 (N:=1048576) Rx Tryz.underlying23 (hval 1 23 v1 rfl rfl) h1 (.inr (by omega));obtain ⟨n1,rfl,i1,l1⟩:=SK s1;obtain ⟨xs2,s2,t2⟩:=L0 (N:=1048576) Ry Tryz.underlying25 (hval 2 25 v2 rfl rfl) h2 (.inr (by omega));obtain ⟨n2,e2,i2⟩:=VA s2;rw [e2] at t2;obtain ⟨n3,i3,t3⟩:=C8 Tryz.underlying5 (hval 3 5 v3 rfl rfl) h3;obtain ⟨n4,i4,t4⟩:=C8 Tryz.underlying5 (hval 4 5 v4 rfl rfl) h4;unfold e8 at i3 i4;refine (x8 (uH hL) (MD FF 1048576 n0 i0 n1 i1 (by omega) (by decide) n2 i2 n3 n4 ⟨i3.1,i3.2⟩ ⟨i4.1,i4.2⟩) rfl ?_).mono λe W' ⟨he,hbl⟩=>?_
 ·intro i x hx
  match i,hx with
  |0,hx=>cases hx;exact t0
  |1,hx=>cases hx;exact t1
  |2,hx=>cases hx;exact t2
  |3,hx=>cases hx;exact t3
  |4,hx=>cases hx;exact t4
 ·subst he;exact ⟨_,rfl,Gm Hg (by rw [Tryz.params6];decide +kernel) rfl Tryz.underlying4 rfl hW' rfl rfl rfl hbl⟩
end Go.Proofs.YtjpgfgajkjhonaaGreatDoor