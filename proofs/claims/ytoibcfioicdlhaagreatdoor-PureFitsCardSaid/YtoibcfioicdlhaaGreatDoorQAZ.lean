/- The functions of this seat in the form of the pictures, and how each is entered. Laid by program (PrintC). Conditions: none; each line is held against the program by the kernel. -/
import Derived.Test.YtoibcfioicdlhaaGreatDoorQAY
import Derived.Test.YtoibcfioicdlhaaGreatDoorQAX
import Derived.RangeFuncLeaves
import Derived.Shelf.Abstract
import Derived.WalkKit
import Derived.OwnWalkIn
import Derived.TacticsInMore
import Derived.LoopNIn
import Derived.LoopIn
namespace Go.Proofs.YtoibcfioicdlhaaGreatDoor
open Go.Vx
set_option maxRecDepth 100000
variable {keep : Bool} {vs : List V} {h : H} {K : Out → H → Prop}
def c67 : C := .seq (.reg [iS 1 (.bx (.s 0))]) (.reg [iS 2 (.ld (.s 1) none), iS 3 (.mf 105 [.s 1]), iS 4 (.cf 94 [.s 2, .k (.d (.int .i64 2)), .s 3])])
theorem c67_ok : comp Tryz.prog Tryz.f67.ntmps ((Tryz.f67.body).getD .skip) = some c67 := by kernel_rfl
def r67 : List RV := []
theorem r67_ok : resP Tryz.prog Tryz.f67 = some r67 := by kernel_rfl
theorem s67 (hl : Nat.ble vs.length 5 = true) (hk : fx (Sat Tryz.prog) ow keep c67 r67 vs h K) : Sat Tryz.prog 67 vs h K :=
  sat_intro ow mixed (fn := Tryz.f67) (by kernel_rfl) (by kernel_rfl) (c := (Tryz.f67.body).getD .skip) (by kernel_rfl) c67_ok r67_ok hl hk
def c68 : C := .seq (.reg [iS 1 (.bx (.s 0))]) (.reg [iS 2 (.ld (.s 1) none), iS 3 (.mf 108 [.s 1]), iS 4 (.cf 94 [.s 2, .k (.d (.int .i64 2)), .s 3])])
theorem c68_ok : comp Tryz.prog Tryz.f68.ntmps ((Tryz.f68.body).getD .skip) = some c68 := by kernel_rfl
def r68 : List RV := []
theorem r68_ok : resP Tryz.prog Tryz.f68 = some r68 := by kernel_rfl
theorem s68 (hl : Nat.ble vs.length 5 = true) (hk : fx (Sat Tryz.prog) ow keep c68 r68 vs h K) : Sat Tryz.prog 68 vs h K :=
  sat_intro ow mixed (fn := Tryz.f68) (by kernel_rfl) (by kernel_rfl) (c := (Tryz.f68.body).getD .skip) (by kernel_rfl) c68_ok r68_ok hl hk
def c105 : C := .seq (.reg [iS 3 (.bx (.s 0)), iS 4 (.bx (.s 1))]) (.rgd [(iS 5 (.ld (.s 2) none), []), (iS 6 (.fa (.s 3) 3), []), (iS 7 (.ld (.s 6) (some 2)), [1]), (iS 8 (.fa (.s 4) 3), []), (iS 9 (.ld (.s 8) (some 2)), [3]), (iS 10 (.cf 107 [.s 7, .s 9]), [2, 4, 1, 3])] [iS 11 (.cf 106 [.s 5, .s 10])])
theorem c105_ok : comp Tryz.prog Tryz.f105.ntmps ((Tryz.f105.body).getD .skip) = some c105 := by kernel_rfl
def r105 : List RV := []
theorem r105_ok : resP Tryz.prog Tryz.f105 = some r105 := by kernel_rfl
theorem s105 (hl : Nat.ble vs.length 12 = true) (hk : fx (Sat Tryz.prog) ow keep c105 r105 vs h K) : Sat Tryz.prog 105 vs h K :=
  sat_intro ow mixed (fn := Tryz.f105) (by kernel_rfl) (by kernel_rfl) (c := (Tryz.f105.body).getD .skip) (by kernel_rfl) c105_ok r105_ok hl hk
def c106 : C := .seq (.reg [iS 3 (.bx (.s 1))]) (.reg [iS 4 (.mv (.s 0)), iS 5 (.ld (.s 3) (some 2)), iS 6 (.bd [.d (.int .i64 0), .d (.int .i64 0), .d (.str []), .d (.str []), .d (.str [])] [(0, 1, .k (.d (.int .i64 2))), (3, 2, .s 5)]), iS 7 (.cf 93 [.s 4, .s 6])])
theorem c106_ok : comp Tryz.prog Tryz.f106.ntmps ((Tryz.f106.body).getD .skip) = some c106 := by kernel_rfl
def r106 : List RV := []
theorem r106_ok : resP Tryz.prog Tryz.f106 = some r106 := by kernel_rfl
theorem s106 (hl : Nat.ble vs.length 8 = true) (hk : fx (Sat Tryz.prog) ow keep c106 r106 vs h K) : Sat Tryz.prog 106 vs h K :=
  sat_intro ow mixed (fn := Tryz.f106) (by kernel_rfl) (by kernel_rfl) (c := (Tryz.f106.body).getD .skip) (by kernel_rfl) c106_ok r106_ok hl hk
def c107 : C := .seq (.reg [iS 2 (.bx (.s 0)), iS 3 (.bx (.s 1)), iS 4 (.al [.d (.str []), .d (.str [])])]) (.seq (.reg [iS 5 (.mf 130 [.s 2, .s 3]), iS 6 (.cf 129 [.s 5]), iN (.st (.s 4) (.s 6) 2)]) (.ret))
theorem c107_ok : comp Tryz.prog Tryz.f107.ntmps ((Tryz.f107.body).getD .skip) = some c107 := by kernel_rfl
def r107 : List RV := [.c 4 (some 2)]
theorem r107_ok : resP Tryz.prog Tryz.f107 = some r107 := by kernel_rfl
theorem s107 (hl : Nat.ble vs.length 7 = true) (hk : fx (Sat Tryz.prog) ow keep c107 r107 vs h K) : Sat Tryz.prog 107 vs h K :=
  sat_intro ow mixed (fn := Tryz.f107) (by kernel_rfl) (by kernel_rfl) (c := (Tryz.f107.body).getD .skip) (by kernel_rfl) c107_ok r107_ok hl hk
def c108 : C := .seq (.reg [iS 3 (.bx (.s 0)), iS 4 (.bx (.s 1))]) (.rgd [(iS 5 (.ld (.s 2) none), []), (iS 6 (.fa (.s 3) 3), []), (iS 7 (.ld (.s 6) (some 2)), [1]), (iS 8 (.fa (.s 4) 3), []), (iS 9 (.ld (.s 8) (some 2)), [3]), (iS 10 (.cf 109 [.s 7, .s 9]), [2, 4, 1, 3])] [iS 11 (.cf 106 [.s 5, .s 10])])
theorem c108_ok : comp Tryz.prog Tryz.f108.ntmps ((Tryz.f108.body).getD .skip) = some c108 := by kernel_rfl
def r108 : List RV := []
theorem r108_ok : resP Tryz.prog Tryz.f108 = some r108 := by kernel_rfl
theorem s108 (hl : Nat.ble vs.length 12 = true) (hk : fx (Sat Tryz.prog) ow keep c108 r108 vs h K) : Sat Tryz.prog 108 vs h K :=
  sat_intro ow mixed (fn := Tryz.f108) (by kernel_rfl) (by kernel_rfl) (c := (Tryz.f108.body).getD .skip) (by kernel_rfl) c108_ok r108_ok hl hk
def c109 : C := .seq (.reg [iS 2 (.bx (.s 0)), iS 3 (.bx (.s 1)), iS 4 (.al [.d (.str []), .d (.str [])])]) (.seq (.reg [iS 5 (.mf 133 [.s 2, .s 3]), iS 6 (.cf 129 [.s 5]), iN (.st (.s 4) (.s 6) 2)]) (.ret))
theorem c109_ok : comp Tryz.prog Tryz.f109.ntmps ((Tryz.f109.body).getD .skip) = some c109 := by kernel_rfl
def r109 : List RV := [.c 4 (some 2)]
theorem r109_ok : resP Tryz.prog Tryz.f109 = some r109 := by kernel_rfl
theorem s109 (hl : Nat.ble vs.length 7 = true) (hk : fx (Sat Tryz.prog) ow keep c109 r109 vs h K) : Sat Tryz.prog 109 vs h K :=
  sat_intro ow mixed (fn := Tryz.f109) (by kernel_rfl) (by kernel_rfl) (c := (Tryz.f109.body).getD .skip) (by kernel_rfl) c109_ok r109_ok hl hk
def c116 : C := .seq (.reg [iS 1 (.bx (.s 0)), iS 2 (.mv (.k (.d (.bool false))))]) (.seq (.rgd [(iS 3 (.ld (.s 1) (some 2)), []), (iS 4 (.cf 135 [.s 3]), [0]), (iS 5 (.ld (.s 1) (some 2)), [])] [iS 6 (.eq false true [2, 2] (.s 4) (.s 5)), iS 2 (.mv (.s 6))]) (.ret))
theorem c116_ok : comp Tryz.prog Tryz.f116.ntmps ((Tryz.f116.body).getD .skip) = some c116 := by kernel_rfl
def r116 : List RV := [.s 2]
theorem r116_ok : resP Tryz.prog Tryz.f116 = some r116 := by kernel_rfl
theorem s116 (hl : Nat.ble vs.length 7 = true) (hk : fx (Sat Tryz.prog) ow keep c116 r116 vs h K) : Sat Tryz.prog 116 vs h K :=
  sat_intro ow mixed (fn := Tryz.f116) (by kernel_rfl) (by kernel_rfl) (c := (Tryz.f116.body).getD .skip) (by kernel_rfl) c116_ok r116_ok hl hk
def c129 : C := .seq (.reg [iS 2 (.al [.d (.str []), .d (.str [])])]) (.seq (.reg [iS 3 (.mv (.s 0)), iS 4 (.cc (.s 3) [.k (.d (.bool true))]), iS 5 (.mv (.s 0)), iS 6 (.cc (.s 5) [.k (.d (.bool false))]), iS 7 (.bd [.d (.str []), .d (.str [])] [(0, 1, .s 4), (1, 1, .s 6)]), iN (.st (.s 2) (.s 7) 2)]) (.ret))
theorem c129_ok : comp Tryz.prog Tryz.f129.ntmps ((Tryz.f129.body).getD .skip) = some c129 := by kernel_rfl
def r129 : List RV := [.c 2 (some 2)]
theorem r129_ok : resP Tryz.prog Tryz.f129 = some r129 := by kernel_rfl
theorem s129 (hl : Nat.ble vs.length 8 = true) (hk : fx (Sat Tryz.prog) ow keep c129 r129 vs h K) : Sat Tryz.prog 129 vs h K :=
  sat_intro ow mixed (fn := Tryz.f129) (by kernel_rfl) (by kernel_rfl) (c := (Tryz.f129.body).getD .skip) (by kernel_rfl) c129_ok r129_ok hl hk
def c130 : C := .seq (.reg [iS 4 (.mv (.k (.d (.str []))))]) (.seq (.seq (.reg [iS 5 (.mv (.s 0)), iS 6 (.eq false false [1] (.s 5) (.k (.d (.bool true))))]) (.cond (.s 6) (.seq (.reg [iS 7 (.fa (.s 1) 0), iS 8 (.ld (.s 7) none), iS 9 (.fa (.s 2) 0), iS 10 (.ld (.s 9) none), iS 11 (.cf 131 [.s 8, .s 10]), iS 4 (.mv (.s 11))]) (.ret)) (.skip))) (.seq (.reg [iS 12 (.fa (.s 1) 1), iS 13 (.ld (.s 12) none), iS 14 (.fa (.s 2) 1), iS 15 (.ld (.s 14) none), iS 16 (.cf 132 [.s 13, .s 15]), iS 4 (.mv (.s 16))]) (.ret)))
theorem c130_ok : comp Tryz.prog Tryz.f130.ntmps ((Tryz.f130.body).getD .skip) = some c130 := by kernel_rfl
def r130 : List RV := [.s 4]
theorem r130_ok : resP Tryz.prog Tryz.f130 = some r130 := by kernel_rfl
theorem s130 (hl : Nat.ble vs.length 17 = true) (hk : fx (Sat Tryz.prog) ow keep c130 r130 vs h K) : Sat Tryz.prog 130 vs h K :=
  sat_intro ow mixed (fn := Tryz.f130) (by kernel_rfl) (by kernel_rfl) (c := (Tryz.f130.body).getD .skip) (by kernel_rfl) c130_ok r130_ok hl hk
def c131 : C := .seq (.reg [iS 4 (.mv (.k (.d (.str []))))]) (.seq (.reg [iS 5 (.mv (.s 0)), iS 6 (.cf 157 [.s 5]), iS 7 (.mv (.s 1)), iS 8 (.cf 157 [.s 7]), iS 9 (.bin .add (.s 6) (.s 8)), iS 10 (.cf 157 [.s 9]), iS 4 (.mv (.s 10))]) (.ret))
theorem c131_ok : comp Tryz.prog Tryz.f131.ntmps ((Tryz.f131.body).getD .skip) = some c131 := by kernel_rfl
def r131 : List RV := [.s 4]
theorem r131_ok : resP Tryz.prog Tryz.f131 = some r131 := by kernel_rfl
theorem s131 (hl : Nat.ble vs.length 11 = true) (hk : fx (Sat Tryz.prog) ow keep c131 r131 vs h K) : Sat Tryz.prog 131 vs h K :=
  sat_intro ow mixed (fn := Tryz.f131) (by kernel_rfl) (by kernel_rfl) (c := (Tryz.f131.body).getD .skip) (by kernel_rfl) c131_ok r131_ok hl hk
def c132 : C := .seq (.reg [iS 3 (.bx (.s 1)), iS 4 (.mv (.k (.d (.str []))))]) (.seq (.rgd [(iS 8 (.mv (.s 0)), []), (iS 9 (.cf 157 [.s 8]), [0]), (iS 10 (.ld (.s 3) none), [])] [iS 11 (.cf 157 [.s 10]), iS 0 (.mv (.s 9)), iN (.st (.s 3) (.s 11) 1)]) (.seq (.reg [iS 12 (.mv (.s 0)), iS 13 (.ls (.s 12)), iS 14 (.ld (.s 3) none), iS 15 (.ls (.s 14)), iS 16 (.bin .mul (.s 13) (.s 15)), iS 17 (.mk [.int .u8 0] 1 1 (.k (.d (.int .i64 0))) (.s 16)), iS 5 (.al [.nl 1]), iN (.st (.s 5) (.s 17) 1)]) (.seq (.seq (.reg [iS 18 (.mv (.s 0)), iS 19 (.cf 158 [.s 18])]) (.block 0 (.rf (.s 19) [20] (.reg [iS 6 (.al [.d (.int .u8 0)]), iN (.st (.s 6) (.s 20) 1)]) (.block 1 (.seq (.reg [iS 21 (.ld (.s 3) none), iS 22 (.cf 158 [.s 21])]) (.block 2 (.rf (.s 22) [23] (.reg [iS 7 (.mv (.s 23))]) (.block 3 (.reg [iS 24 (.ld (.s 5) none), iS 25 (.ld (.s 6) none), iS 26 (.mv (.s 7)), iS 27 (.bin .or (.s 25) (.s 26)), iS 28 (.bs 1 [.d (.int .u8 0)] 1 [(0, .s 27)]), iS 29 (.ap (.s 24) (.s 28) 1 1), iN (.st (.s 5) (.s 29) 1)]))))))))) (.seq (.reg [iS 30 (.ld (.s 5) none), iS 31 (.sb (.s 30)), iS 32 (.cf 157 [.s 31]), iS 4 (.mv (.s 32))]) (.ret)))))
theorem c132_ok : comp Tryz.prog Tryz.f132.ntmps ((Tryz.f132.body).getD .skip) = some c132 := by kernel_rfl
def r132 : List RV := [.s 4]
theorem r132_ok : resP Tryz.prog Tryz.f132 = some r132 := by kernel_rfl
theorem s132 (hl : Nat.ble vs.length 33 = true) (hk : fx (Sat Tryz.prog) ow keep c132 r132 vs h K) : Sat Tryz.prog 132 vs h K :=
  sat_intro ow mixed (fn := Tryz.f132) (by kernel_rfl) (by kernel_rfl) (c := (Tryz.f132.body).getD .skip) (by kernel_rfl) c132_ok r132_ok hl hk
def c133 : C := .seq (.reg [iS 4 (.mv (.k (.d (.str []))))]) (.seq (.seq (.reg [iS 5 (.mv (.s 0)), iS 6 (.eq false false [1] (.s 5) (.k (.d (.bool true))))]) (.cond (.s 6) (.seq (.reg [iS 7 (.fa (.s 1) 0), iS 8 (.ld (.s 7) none), iS 9 (.fa (.s 2) 0), iS 10 (.ld (.s 9) none), iS 11 (.cf 132 [.s 8, .s 10]), iS 4 (.mv (.s 11))]) (.ret)) (.skip))) (.seq (.reg [iS 12 (.fa (.s 1) 1), iS 13 (.ld (.s 12) none), iS 14 (.fa (.s 2) 1), iS 15 (.ld (.s 14) none), iS 16 (.cf 131 [.s 13, .s 15]), iS 4 (.mv (.s 16))]) (.ret)))
theorem c133_ok : comp Tryz.prog Tryz.f133.ntmps ((Tryz.f133.body).getD .skip) = some c133 := by kernel_rfl
def r133 : List RV := [.s 4]
theorem r133_ok : resP Tryz.prog Tryz.f133 = some r133 := by kernel_rfl
theorem s133 (hl : Nat.ble vs.length 17 = true) (hk : fx (Sat Tryz.prog) ow keep c133 r133 vs h K) : Sat Tryz.prog 133 vs h K :=
  sat_intro ow mixed (fn := Tryz.f133) (by kernel_rfl) (by kernel_rfl) (c := (Tryz.f133.body).getD .skip) (by kernel_rfl) c133_ok r133_ok hl hk
def c135 : C := .seq (.reg [iS 1 (.bx (.s 0)), iS 2 (.al [.d (.str []), .d (.str [])])]) (.seq (.reg [iS 3 (.mf 160 [.s 1]), iS 4 (.cf 129 [.s 3]), iN (.st (.s 2) (.s 4) 2)]) (.ret))
theorem c135_ok : comp Tryz.prog Tryz.f135.ntmps ((Tryz.f135.body).getD .skip) = some c135 := by kernel_rfl
def r135 : List RV := [.c 2 (some 2)]
theorem r135_ok : resP Tryz.prog Tryz.f135 = some r135 := by kernel_rfl
theorem s135 (hl : Nat.ble vs.length 5 = true) (hk : fx (Sat Tryz.prog) ow keep c135 r135 vs h K) : Sat Tryz.prog 135 vs h K :=
  sat_intro ow mixed (fn := Tryz.f135) (by kernel_rfl) (by kernel_rfl) (c := (Tryz.f135.body).getD .skip) (by kernel_rfl) c135_ok r135_ok hl hk
def c157 : C := .seq (.reg [iS 2 (.mv (.k (.d (.str []))))]) (.seq (.reg [iS 5 (.mv (.s 0)), iS 6 (.ls (.s 5)), iS 7 (.mk [.int .u8 0] 1 1 (.k (.d (.int .i64 0))) (.s 6)), iS 3 (.al [.nl 1]), iN (.st (.s 3) (.s 7) 1)]) (.seq (.seq (.reg [iS 8 (.mv (.s 0)), iS 9 (.cf 158 [.s 8])]) (.block 0 (.rf (.s 9) [10] (.reg [iS 4 (.mv (.s 10))]) (.block 1 (.reg [iS 11 (.ld (.s 3) none), iS 12 (.mv (.s 4)), iS 13 (.bin .and (.s 12) (.k (.d (.int .u8 63)))), iS 14 (.bs 1 [.d (.int .u8 0)] 1 [(0, .s 13)]), iS 15 (.ap (.s 11) (.s 14) 1 1), iN (.st (.s 3) (.s 15) 1)]))))) (.seq (.reg [iS 16 (.ld (.s 3) none), iS 17 (.sb (.s 16)), iS 18 (.cf 171 [.s 17]), iS 2 (.mv (.s 18))]) (.ret))))
theorem c157_ok : comp Tryz.prog Tryz.f157.ntmps ((Tryz.f157.body).getD .skip) = some c157 := by kernel_rfl
def r157 : List RV := [.s 2]
theorem r157_ok : resP Tryz.prog Tryz.f157 = some r157 := by kernel_rfl
theorem s157 (hl : Nat.ble vs.length 19 = true) (hk : fx (Sat Tryz.prog) ow keep c157 r157 vs h K) : Sat Tryz.prog 157 vs h K :=
  sat_intro ow mixed (fn := Tryz.f157) (by kernel_rfl) (by kernel_rfl) (c := (Tryz.f157.body).getD .skip) (by kernel_rfl) c157_ok r157_ok hl hk
def c158 : C := .seq (.reg [iS 1 (.bx (.s 0)), iS 2 (.mv (.k (.d (.nf))))]) (.seq (.reg [iS 3 (.mf 172 [.s 1]), iS 2 (.mv (.s 3))]) (.ret))
theorem c158_ok : comp Tryz.prog Tryz.f158.ntmps ((Tryz.f158.body).getD .skip) = some c158 := by kernel_rfl
def r158 : List RV := [.s 2]
theorem r158_ok : resP Tryz.prog Tryz.f158 = some r158 := by kernel_rfl
theorem s158 (hl : Nat.ble vs.length 4 = true) (hk : fx (Sat Tryz.prog) ow keep c158 r158 vs h K) : Sat Tryz.prog 158 vs h K :=
  sat_intro ow mixed (fn := Tryz.f158) (by kernel_rfl) (by kernel_rfl) (c := (Tryz.f158.body).getD .skip) (by kernel_rfl) c158_ok r158_ok hl hk
def c160 : C := .seq (.reg [iS 3 (.mv (.k (.d (.str []))))]) (.seq (.reg [iS 4 (.mv (.s 0)), iS 5 (.ld (.s 1) (some 2)), iS 6 (.cf 161 [.s 4, .s 5]), iS 7 (.cf 157 [.s 6]), iS 3 (.mv (.s 7))]) (.ret))
theorem c160_ok : comp Tryz.prog Tryz.f160.ntmps ((Tryz.f160.body).getD .skip) = some c160 := by kernel_rfl
def r160 : List RV := [.s 3]
theorem r160_ok : resP Tryz.prog Tryz.f160 = some r160 := by kernel_rfl
theorem s160 (hl : Nat.ble vs.length 8 = true) (hk : fx (Sat Tryz.prog) ow keep c160 r160 vs h K) : Sat Tryz.prog 160 vs h K :=
  sat_intro ow mixed (fn := Tryz.f160) (by kernel_rfl) (by kernel_rfl) (c := (Tryz.f160.body).getD .skip) (by kernel_rfl) c160_ok r160_ok hl hk
def c161 : C := .seq (.reg [iS 3 (.bx (.s 1)), iS 4 (.mv (.k (.d (.str []))))]) (.seq (.seq (.reg [iS 5 (.mv (.s 0)), iS 6 (.eq false false [1] (.s 5) (.k (.d (.bool true))))]) (.cond (.s 6) (.seq (.reg [iS 7 (.fa (.s 3) 0), iS 8 (.ld (.s 7) none), iS 4 (.mv (.s 8))]) (.ret)) (.skip))) (.seq (.reg [iS 9 (.fa (.s 3) 1), iS 10 (.ld (.s 9) none), iS 4 (.mv (.s 10))]) (.ret)))
theorem c161_ok : comp Tryz.prog Tryz.f161.ntmps ((Tryz.f161.body).getD .skip) = some c161 := by kernel_rfl
def r161 : List RV := [.s 4]
theorem r161_ok : resP Tryz.prog Tryz.f161 = some r161 := by kernel_rfl
theorem s161 (hl : Nat.ble vs.length 11 = true) (hk : fx (Sat Tryz.prog) ow keep c161 r161 vs h K) : Sat Tryz.prog 161 vs h K :=
  sat_intro ow mixed (fn := Tryz.f161) (by kernel_rfl) (by kernel_rfl) (c := (Tryz.f161.body).getD .skip) (by kernel_rfl) c161_ok r161_ok hl hk
def c171 : C := .seq (.reg [iS 2 (.mv (.k (.d (.str []))))]) (.seq (.reg [iS 3 (.aa (.bool false) 256)]) (.seq (.seq (.reg [iS 8 (.mv (.s 0)), iS 9 (.ls (.s 8)), iS 10 (.mv (.k (.d (.int .i64 0))))]) (.block 0 (.loop (.seq (.reg [iS 11 (.bin .lss (.s 10) (.s 9))]) (.seq (.cond (.s 11) (.skip) (.exit 0)) (.seq (.block 1 (.seq (.reg [iS 12 (.mv (.s 10)), iS 4 (.mv (.s 12))]) (.reg [iS 13 (.mv (.s 0)), iS 14 (.mv (.s 4)), iS 15 (.ix (.s 13) (.s 14)), iS 16 (.jq (.s 3) (.s 15) 256), iN (.st (.s 16) (.k (.d (.bool true))) 1)]))) (.reg [iS 17 (.bin .add (.s 10) (.k (.d (.int .i64 1)))), iS 10 (.mv (.s 17))]))))))) (.seq (.reg [iS 5 (.nil 1)]) (.seq (.seq (.reg [iS 18 (.la (.s 3) 256), iS 19 (.mv (.k (.d (.int .i64 0))))]) (.block 2 (.loop (.seq (.reg [iS 20 (.bin .lss (.s 19) (.k (.d (.int .i64 256))))]) (.seq (.cond (.s 20) (.skip) (.exit 2)) (.seq (.block 3 (.seq (.reg [iS 21 (.mv (.s 19)), iS 22 (.ai (.s 18) (.s 19) 256), iS 6 (.mv (.s 21)), iS 7 (.mv (.s 22))]) (.seq (.reg [iS 23 (.mv (.s 7)), iS 24 (.mv (.s 23)), iG 25 (.mv (.s 6)) 24 true, iG 26 (.cv .u8 (.s 25)) 24 true, iG 27 (.mv (.s 5)) 24 true, iG 28 (.cf 178 [.s 26, .s 27]) 24 true, iG 29 (.un .not (.s 28)) 24 true, iS 30 (.pk (.s 24) (.s 29) (.k (.d (.bool false))))]) (.cond (.s 30) (.reg [iS 31 (.mv (.s 5)), iS 32 (.mv (.s 6)), iS 33 (.cv .u8 (.s 32)), iS 34 (.bs 1 [.d (.int .u8 0)] 1 [(0, .s 33)]), iS 35 (.ap (.s 31) (.s 34) 1 1), iS 5 (.mv (.s 35))]) (.skip))))) (.reg [iS 36 (.bin .add (.s 19) (.k (.d (.int .i64 1)))), iS 19 (.mv (.s 36))]))))))) (.seq (.reg [iS 37 (.mv (.s 5)), iS 38 (.sb (.s 37)), iS 2 (.mv (.s 38))]) (.ret))))))
theorem c171_ok : comp Tryz.prog Tryz.f171.ntmps ((Tryz.f171.body).getD .skip) = some c171 := by kernel_rfl
def r171 : List RV := [.s 2]
theorem r171_ok : resP Tryz.prog Tryz.f171 = some r171 := by kernel_rfl
theorem s171 (hl : Nat.ble vs.length 39 = true) (hk : fx (Sat Tryz.prog) ow keep c171 r171 vs h K) : Sat Tryz.prog 171 vs h K :=
  sat_intro ow mixed (fn := Tryz.f171) (by kernel_rfl) (by kernel_rfl) (c := (Tryz.f171.body).getD .skip) (by kernel_rfl) c171_ok r171_ok hl hk
def c178 : C := .seq (.reg [iS 4 (.mv (.k (.d (.bool false))))]) (.seq (.seq (.reg [iS 7 (.mv (.s 1)), iS 8 (.ln (.s 7)), iS 9 (.mv (.k (.d (.int .i64 0))))]) (.block 0 (.loop (.seq (.reg [iS 10 (.bin .lss (.s 9) (.s 8))]) (.seq (.cond (.s 10) (.skip) (.exit 0)) (.seq (.block 1 (.seq (.reg [iS 11 (.ia (.s 7) (.s 9) 1), iS 12 (.ld (.s 11) none), iS 6 (.mv (.s 12))]) (.seq (.reg [iS 13 (.mv (.s 6)), iS 14 (.mv (.s 0)), iS 15 (.cf 185 [.s 13, .s 14])]) (.cond (.s 15) (.seq (.reg [iS 4 (.mv (.k (.d (.bool true))))]) (.ret)) (.skip))))) (.reg [iS 16 (.bin .add (.s 9) (.k (.d (.int .i64 1)))), iS 9 (.mv (.s 16))]))))))) (.seq (.reg [iS 4 (.mv (.k (.d (.bool false))))]) (.ret)))
theorem c178_ok : comp Tryz.prog Tryz.f178.ntmps ((Tryz.f178.body).getD .skip) = some c178 := by kernel_rfl
def r178 : List RV := [.s 4]
theorem r178_ok : resP Tryz.prog Tryz.f178 = some r178 := by kernel_rfl
theorem s178 (hl : Nat.ble vs.length 17 = true) (hk : fx (Sat Tryz.prog) ow keep c178 r178 vs h K) : Sat Tryz.prog 178 vs h K :=
  sat_intro ow mixed (fn := Tryz.f178) (by kernel_rfl) (by kernel_rfl) (c := (Tryz.f178.body).getD .skip) (by kernel_rfl) c178_ok r178_ok hl hk
def c185 : C := .seq (.reg [iS 4 (.mv (.k (.d (.bool false))))]) (.seq (.reg [iS 5 (.mv (.s 0)), iS 6 (.mv (.s 1)), iS 7 (.bin .andNot (.s 5) (.s 6)), iS 8 (.bin .eql (.s 7) (.k (.d (.int .u8 0)))), iS 4 (.mv (.s 8))]) (.ret))
theorem c185_ok : comp Tryz.prog Tryz.f185.ntmps ((Tryz.f185.body).getD .skip) = some c185 := by kernel_rfl
def r185 : List RV := [.s 4]
theorem r185_ok : resP Tryz.prog Tryz.f185 = some r185 := by kernel_rfl
theorem s185 (hl : Nat.ble vs.length 9 = true) (hk : fx (Sat Tryz.prog) ow keep c185 r185 vs h K) : Sat Tryz.prog 185 vs h K :=
  sat_intro ow mixed (fn := Tryz.f185) (by kernel_rfl) (by kernel_rfl) (c := (Tryz.f185.body).getD .skip) (by kernel_rfl) c185_ok r185_ok hl hk
end Go.Proofs.YtoibcfioicdlhaaGreatDoor
namespace Go.Proofs.YtoibcfioicdlhaaGreatDoor
open Go.Vx Go.RowKit Go.Shelf
set_option maxRecDepth 100000
attribute [local go_sem] Oper.semAt_some
theorem wrap_k {k n : Nat} (hm : n ≤ 9223372036854775807) (h : k < n) : wrap64 ((k : Int) + 1) = k + 1 := by unfold wrap64; omega
def eachR (s : List UInt8) : List (List D) := s.map fun b => [D.int .u8 b.toNat]
set_option maxRecDepth 100000 in
set_option maxHeartbeats 2000000 in
theorem each172_in (F : Fence) (n : Nat) (hf : F.fn 172) (hro : F.round = none) (hn : 1 ≤ n) (s : List UInt8) (hm : s.length ≤ 9223372036854775807) (l b : Nat) (J : Nat → World → Prop) (Jx : World → Prop) (hcell : ∀ i W, J i W → W.cell? ⟨b, 0, none⟩ = some (.string ⟨s.toArray⟩))
    (hY : ∀ (i : Nat) (x : UInt8) (W1 : World), s[i]? = some x → J i W1 → YieldAt F (n - 1) Tryz.prog l #[.int .u8 x.toNat] W1 fun e W2 => (e = .returned (.bool true) ∧ J (i + 1) W2) ∨ (e = .returned (.bool false) ∧ Jx W2))
    (W : World) (h0 : J 0 W) : CallsIn F n Tryz.prog 172 #[.func (.yield l) #[] #[], .pointer (some ⟨b, 0, none⟩)] W fun e W' => (∃ v, e = .returned v) ∧ (J s.length W' ∨ Jx W') := by
  have hc := hcell 0 W h0
  refine callsIn_of_wp Tryz.func172 rfl hf ?_ hro
  simp only [Tryz.ntmps172, List.size_toArray, List.length_cons, List.length_nil, Nat.reduceAdd, Nat.reduceSub, Array.replicate_succ, Array.replicate_zero, List.push_toArray, List.append_toArray, List.nil_append, List.cons_append]
  gi_wp2
  gi_loopw [6] (fun p wr => ∃ k : Nat, k ≤ s.length ∧ p = .int .i64 k ∧ J k wr) (fun p _ => s.length - (intOf p).toNat)
  case atStart => exact ⟨0, Nat.zero_le _, rfl, h0⟩
  case round =>
    obtain ⟨k, hk, rfl, hJs⟩ := hrel
    have hcx := hcell k wr hJs
    by_cases hlt : k < s.length
    · obtain ⟨fn, tmps, assign, body, hy, hR⟩ := hY k s[k] wr (by simp [hlt]) hJs
      have hkl : k < (ByteArray.mk s.toArray).size := by simpa [ByteArray.size] using hlt
      rw [show s[k] = (ByteArray.mk s.toArray)[k] from rfl] at hy
      gi_wp2
      refine hR.mono ?_
      rintro e W3 (⟨rfl, hJ3⟩ | ⟨rfl, hJx3⟩)
      · have hw := wrap_k hm hlt
        gi_wp2
        go_roundw
        case rel => exact ⟨k + 1, by omega, by simp, hJ3⟩
        case measure => simp [intOf]; omega
      · gi_wp2
        refine bodyPost_ret (results_none rfl _ _ _) rfl ?_
        exact ⟨⟨_, rfl⟩, .inr hJx3⟩
    · obtain rfl : k = s.length := by omega
      gi_wp2
      go_end0
      exact ⟨⟨_, rfl⟩, .inl hJs⟩
set_option maxRecDepth 100000 in
theorem each172 (s : List UInt8) : IterP Tryz.prog 172 [.p 0 0] [.cells [.d (.str s)]] (eachR s) := by
  refine ⟨by kernel_rfl, ?_⟩
  intro ρ cv l J Jx hlen hJ hJx hrep hY W h0
  obtain ⟨a0, rfl⟩ := List.length_eq_one_iff.1 (show cv.length = 1 from hlen)
  have hcell : ∀ i W, J i W → ∃ b, a0 = .pointer (some ⟨b, 0, none⟩) ∧ W.cell? ⟨b, 0, none⟩ = some (.string ⟨s.toArray⟩) ∧ s.length ≤ maxLen := by
    intro i W hj
    obtain ⟨G, hR, hv⟩ := hrep i W hj
    obtain ⟨b, e1, hρ⟩ := (hv 0 (.p 0 0) rfl).pt
    obtain ⟨b', arr, ty, e2, h1, h2, h3⟩ := hR.rep 0 _ _ hρ rfl
    cases e2
    have h4 := h3 0 (.d (.str s)) rfl
    have hlt : 0 < arr.size := by rw [h2]; simp
    have e5 : arr.getD 0 undef = arr[0] := by rw [Array.getD_eq_getD_getElem?, Array.getElem?_eq_getElem hlt]; rfl
    rw [e5] at h4
    refine ⟨b, e1, ?_⟩
    rw [cell_arr h1, Array.getElem?_eq_getElem hlt]
    generalize arr[0] = u at h4
    generalize hs : D.str s = ds at h4
    cases h4 with
    | k h => cases h with
      | d h => cases h with
        | str sv hm => 
          cases hs
          exact ⟨rfl, hm⟩
        | _ => cases hs
  obtain ⟨b, rfl, hc, hm⟩ := hcell 0 W h0
  have hcell' : ∀ i W, J i W → W.cell? ⟨b, 0, none⟩ = some (.string ⟨s.toArray⟩) := fun i W hj => by
    obtain ⟨b', e, h1, _⟩ := hcell i W hj
    cases e
    exact h1
  have h1 := each172_in (Fw none) 1 trivial rfl (Nat.le_refl _) s hm l b J Jx hcell' (fun i x W1 hx hj => hY i [D.int .u8 x.toNat] W1 (by simp [eachR, hx]) hj) W h0
  rw [show (eachR s).length = s.length by simp [eachR]]
  exact calls_in (in_calls h1)
end Go.Proofs.YtoibcfioicdlhaaGreatDoor
