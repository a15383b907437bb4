/- Lemmas. Conditions: none. -/
import Derived.Test.YtjpgfgajkjhonaaGreatDoorQRBK
namespace Go.Proofs.YtjpgfgajkjhonaaGreatDoor
open Go.Vx
set_option maxRecDepth 100000
open Go.ChangeShapes Go.WideShapes Go.ChangeAt Go.RowKit
abbrev l6:Array Value:= #[.slice none 0 0,.slice none 0 0,.agg #[.int .u8 0,.int .u8 0,.int .u8 0,.int .u8 0,.int .u8 0,.int .u8 0],.int .u8 0]
theorem sV (os:Os) {H:Type} (enc:TypeId×Value→H):∃places,DataW.whole enc Tryz.prog ((yg os).forCall (λ_ _=>0) ⟨#[],l6,[]⟩).memory Tryz.f7.params.toList Rows.sysRoomsSpec.vars false l6.toList 8=some ([.nil,.nil,.agg [.lit (.int .u8 0),.lit (.int .u8 0),.lit (.int .u8 0),.lit (.int .u8 0),.lit (.int .u8 0),.lit (.int .u8 0)],.lit (.int .u8 0)],[],places):=
 ⟨[],by kernel_rfl⟩
set_option maxRecDepth 100000 in
theorem rN (os:Os) (started:os.Started) (H:Type) (enc:TypeId×Value→H) (F:Stop.Interp) :
  ReturnsInHanded {} Tryz.checked os 7 .any ((Rows.OpenSpec.upto Rows.sysRoomsSpec).preRow enc Tryz.prog Tryz.f7 Rows.sysRoomsUptoRow.domain false Rows.sysRoomsUptoRow.laid) (((Rows.OpenSpec.upto Rows.sysRoomsSpec).at F).post enc Tryz.prog Tryz.f7 false true false false):=by
 obtain ⟨places,hx⟩:=sV os enc;refine returnsInHanded_of_row (C:=Tryz.checked) (s:=Rows.OpenSpec.upto Rows.sysRoomsSpec) VZ started zx0 Tryz.func7
  (witness_row_atRef (enc:=enc) (C:=Tryz.checked) false (yg os) l6 (HP os) zx0 (As os _) zx0
   (OpenSpec.preRow_of_cond 8 hx zx0 (λk hk=>by cases hk;rfl) zx0 (ER os _))) ?_
 intro W base args ds gs before hval hW _ hk _ hL _ _;exact pP H enc W base args ds gs before hval hW (hk Rows.uptoSmall rfl) hL
end Go.Proofs.YtjpgfgajkjhonaaGreatDoor