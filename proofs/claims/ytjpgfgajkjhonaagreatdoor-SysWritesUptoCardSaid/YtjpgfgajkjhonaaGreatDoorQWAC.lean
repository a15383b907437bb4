/- SysWrites: the row, second form. Conditions: the row's own (the listed tables hold what the program's text lays; what is read is of bulk at most 1048576). -/
import Derived.Test.YtjpgfgajkjhonaaGreatDoorQRBH
import Derived.Test.YtjpgfgajkjhonaaGreatDoorQWAB
namespace Go.Proofs.YtjpgfgajkjhonaaGreatDoor
open Go.Vx
set_option maxRecDepth 100000
open Go.ChangeShapes Go.WideShapes Go.ChangeAt Go.RowKit
set_option maxRecDepth 100000 in
theorem sysWrites_contract(H:Type)(enc:TypeId×Value->H)(W:World)(base:Nat)(args:Array Value)(ds gs:List (DataW H))(before:List MemPlace)
  (hval:∀(j:Nat) t v,Tryz.f8.params[j]?=some t->args[j]?=some v->Value.okWide Tryz.prog W .any base t v)
  (hW:DataW.Whole enc Tryz.prog Tryz.f8.params.toList Rows.sysWritesSpec.vars false W args.toList ds gs before) (hk:Rows.uptoSmall H (ds++gs)=true) (hL:laidMetH Tryz.prog Rows.sysWritesUptoRow.laid W) :
  Calls Tryz.prog 8 args W λe W'=>∃v,e=.returned v/\Rows.sysWritesSpec.post enc Tryz.prog Tryz.f8 false true false false W args v W':=by
 have hW':=hW;obtain⟨p,q,hA0,hV,rfl,hfz,hnd⟩:=hW;have hA:DataW.TrodAll enc Tryz.prog W 0 (λ_=>true) true Tryz.f8.params.toList args.toList ds p:=hA0;rw[Tryz.params8]at hA hval;obtain⟨v0,vs0,d0,ds0,p0,q0,hargs,rfl,rfl,h0,r0⟩:=trodAll_cons hA;obtain⟨v1,vs1,d1,ds1,p1,q1,rfl,rfl,rfl,h1,r1⟩:=trodAll_cons r0;obtain⟨v2,vs2,d2,ds2,p2,q2,rfl,rfl,rfl,h2,r2⟩:=trodAll_cons r1;obtain⟨v3,vs3,d3,ds3,p3,q3,rfl,rfl,rfl,h3,r3⟩:=trodAll_cons r2;obtain⟨rfl,rfl,rfl⟩:=trodAll_nil r3;obtain rfl:args=#[v0,v1,v2,v3]:=by cases args;simp_all
 obtain⟨rfl,rfl⟩:=trodVars_none hV;have hb:=Pc hk;simp only[Rows.uptoBulkAll,List.append_nil]at hb;obtain⟨rows0,s0,t0⟩:=CM (N:=1048576) SM Tryz.underlying22 (hval 0 22 v0 rfl rfl) h0 (.inr (by omega));obtain⟨n0,rfl,i0⟩:=Pe s0;obtain⟨rows1,s1,t1⟩:=CM (N:=1048576) SN Tryz.underlying23 (hval 1 23 v1 rfl rfl) h1 (.inr (by omega));obtain⟨n1,rfl,i1,l1⟩:=S4 s1;obtain⟨xs2,s2,t2⟩:=LX (N:=1048576) SO Tryz.underlying25 (hval 2 25 v2 rfl rfl) h2 (.inr (by omega));obtain⟨n2,e2,i2⟩:=VT s2;rw[e2]at t2;obtain⟨n3,i3,t3⟩:=LY Tryz.underlying5 (hval 3 5 v3 rfl rfl) h3;unfold eK at i3;refine(xR (sF hL) (writes8 Ei 1048576 n0 i0 n1 i1 (by decide) n2 i2 n3 ⟨i3.1,i3.2⟩) rfl ?_).mono λe W' ⟨he,hbl⟩=>?_
 .intro i x hx
  match i,hx with
  |0,hx=>cases hx;exact t0
  |1,hx=>cases hx;exact t1
  |2,hx=>cases hx;exact t2
  |3,hx=>cases hx;exact t3
 .subst he;exact⟨_,rfl,G4 HQ (by rw[Tryz.params8];decide +kernel) rfl Tryz.underlying4 rfl hW' rfl rfl rfl hbl⟩
end Go.Proofs.YtjpgfgajkjhonaaGreatDoor
