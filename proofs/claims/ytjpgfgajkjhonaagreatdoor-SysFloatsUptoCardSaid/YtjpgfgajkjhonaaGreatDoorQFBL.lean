/- SysFloats: what is read of the arguments, and the row by its contract. Conditions: none. -/
import Derived.Test.YtjpgfgajkjhonaaGreatDoorQFBK
namespace Go.Proofs.YtjpgfgajkjhonaaGreatDoor
open Go.Vx
set_option maxRecDepth 100000
open Go.ChangeShapes Go.WideShapes Go.ChangeAt Go.RowKit
abbrev kQ:Array Value:= #[.slice none 0 0,.slice none 0 0,.agg #[.int .u8 0,.int .u8 0,.int .u8 0,.int .u8 0,.int .u8 0,.int .u8 0],.int .u8 0]
theorem qa (os:Os) {H:Type} (enc:TypeId×Value→H):∃places,DataW.whole enc Tryz.prog ((xr os).forCall (λ_ _=>0) ⟨#[],kQ,[]⟩).memory Tryz.f3.params.toList Rows.sysFloatsSpec.vars false kQ.toList 8=some ([.nil,.nil,.agg [.lit (.int .u8 0),.lit (.int .u8 0),.lit (.int .u8 0),.lit (.int .u8 0),.lit (.int .u8 0),.lit (.int .u8 0)],.lit (.int .u8 0)],[],places):=
 ⟨[],by kernel_rfl⟩
set_option maxRecDepth 100000 in
theorem pg (os:Os) (started:os.Started) (H:Type) (enc:TypeId×Value→H) (F:Stop.Interp) :
  ReturnsInHanded {} Tryz.checked os 3 .any ((Rows.OpenSpec.upto Rows.sysFloatsSpec).preRow enc Tryz.prog Tryz.f3 Rows.sysFloatsUptoRow.domain false Rows.sysFloatsUptoRow.laid) (((Rows.OpenSpec.upto Rows.sysFloatsSpec).at F).post enc Tryz.prog Tryz.f3 false true false false):=by
 obtain ⟨places,hx⟩:=qa os enc;refine returnsInHanded_of_row (C:=Tryz.checked) (s:=Rows.OpenSpec.upto Rows.sysFloatsSpec) TK started (by kernel_rfl) Tryz.func3
  (witness_row_atRef (enc:=enc) (C:=Tryz.checked) false (xr os) kQ (Fy os) (by kernel_rfl) (AJ os _) (by kernel_rfl)
   (OpenSpec.preRow_of_cond 8 hx (by kernel_rfl) (λk hk=>by cases hk;rfl) (by kernel_rfl) (DW os _))) ?_
 intro W base args ds gs before hval hW _ hk _ hL _ _;exact nz H enc W base args ds gs before hval hW (hk Rows.uptoSmall rfl) hL
end Go.Proofs.YtjpgfgajkjhonaaGreatDoor
