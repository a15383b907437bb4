/- Lemmas. Conditions: none. -/
import Derived.Test.YtmigecldjbgneaaGreatDoorQKBM
namespace Go.Proofs.YtmigecldjbgneaaGreatDoor
open Go.Vx
set_option maxRecDepth 100000
open Go.ChangeShapes Go.WideShapes Go.ChangeAt Go.RowKit
abbrev j5:Array Value:= #[.agg #[.slice none 0 0,.slice none 0 0,.slice none 0 0],.int .u8 0,.int .u8 0]
theorem qW(os:Os){H:Type}(enc:TypeId×Value->H):∃places,DataW.whole enc Tryz.prog ((z8 os).forCall (λ_ _=>0) ⟨#[],j5,[]⟩).memory Tryz.f3.params.toList Rows.kernRefusesSpec.vars false j5.toList 8=some ([.agg [.nil,.nil,.nil],.lit (.int .u8 0),.lit (.int .u8 0)],[],places):=
 ⟨[],by kernel_rfl⟩
set_option maxRecDepth 100000 in
theorem pe(os:Os)(started:os.Started)(H:Type)(enc:TypeId×Value->H)(F:Stop.Interp) :
  ReturnsInHanded {} Tryz.checked os 3 .any ((OpenSpec.ofChange Rows.kernRefusesSpec).preRow enc Tryz.prog Tryz.f3 Rows.kernRefusesRow.domain false Rows.kernRefusesRow.laid) (((OpenSpec.ofChange Rows.kernRefusesSpec).at F).post enc Tryz.prog Tryz.f3 false true false false):=by
 obtain⟨places,hx⟩:=qW os enc;refine returnsInHanded_of_row (C:=Tryz.checked) (s:=OpenSpec.ofChange Rows.kernRefusesSpec) W9 started zx0 Tryz.func3
  (witness_row_atRef (enc:=enc) (C:=Tryz.checked) false (z8 os) j5 (JL os) zx0 (Bb os _) zx0
   (OpenSpec.preRow_of_cond 8 hx zx0 (λk hk=>by cases hk) zx0 (Eu os _))) ?_
 intro W base args ds gs before hval hW _ _ _ hL _ _;exact oE H enc W base args ds gs before hval hW hL
end Go.Proofs.YtmigecldjbgneaaGreatDoor