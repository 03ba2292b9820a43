/- The code of the functions, in the form of our laws; each is the program's own, by the kernel. Written by a program of ours. -/
import Derived.Test.YtbgnlnlgjmipfaaB0
import Derived.KernelRfl
namespace Go.Proofs.Ytbgnlnlgjmipfaa
open Go.Abs

/-- laws.szClaim -/
def C75 : CC :=
 (.seq (.ops [⟨some 2, none, .box (.tmp 0)⟩,
   ⟨some 4, none, .mv (.const (.int .i64 0))⟩])
 (.seq (.ops [⟨some 5, none, .mv (.tmp 1)⟩,
   ⟨some 6, none, .fa 0 (.tmp 2)⟩,
   ⟨some 7, none, .load false 1 (.tmp 6)⟩,
   ⟨some 8, none, .len true (.tmp 7)⟩,
   ⟨some 9, none, .bin .sub 0 (.tmp 5) (.tmp 8)⟩,
   ⟨some 1, none, .mv (.tmp 9)⟩])
 (.seq (.seq (.ops [⟨some 10, none, .mv (.tmp 1)⟩,
    ⟨some 11, none, .bin .lss 0 (.tmp 10) (.const (.int .i64 0))⟩])
  (.cond (.tmp 11) (.seq (.ops [⟨some 4, none, .mv (.const (.int .i64 (-1)))⟩])
   .ret)
  .skip))
 (.seq (.ops [⟨some 12, none, .mv (.tmp 1)⟩,
   ⟨some 4, none, .mv (.tmp 12)⟩])
 .ret))))
theorem C75_ok : Try.f75.body.bind (comp Try.prog) = some C75 := by kernel_rfl
theorem C75_res : compRs Try.prog Try.f75.results.toList = some [.tmp 4] := by kernel_rfl
theorem C75_nm : (Try.f75.name == "runtime.NumGoroutine") = false := by kernel_rfl
theorem C75_fn {a0 a1 : AV} {H : Heap} {Q : AV → Heap → Prop} (h : vc Try.prog C75 (vcEnd [.tmp 4] Q) H [a0, a1, .any, .any, .any, .any, .any, .any, .any, .any, .any, .any, .any]) : Runs Try.prog 75 [a0, a1] H Q :=
  @fn_go Try.prog mixed 75 Try.f75 C75 [.tmp 4] Try.func75 C75_ok C75_res C75_nm 13 Try.ntmps75 [a0, a1] [a0, a1, .any, .any, .any, .any, .any, .any, .any, .any, .any, .any, .any] H Q h 11 (by kernel_rfl) (by kernel_rfl)

/-- laws.szClaimS -/
def C15 : CC :=
 (.seq (.ops [⟨some 4, none, .mv (.const (.int .i64 0))⟩])
 (.seq (.ops [⟨some 6, none, .mv (.tmp 1)⟩,
   ⟨some 7, none, .mv (.tmp 0)⟩,
   ⟨some 8, none, .len false (.tmp 7)⟩,
   ⟨some 9, none, .bin .sub 0 (.tmp 6) (.tmp 8)⟩,
   ⟨some 1, none, .mv (.tmp 9)⟩])
 (.seq (.seq (.ops [⟨some 10, none, .mv (.tmp 1)⟩,
    ⟨some 11, none, .bin .lss 0 (.tmp 10) (.const (.int .i64 0))⟩])
  (.cond (.tmp 11) (.seq (.ops [⟨some 4, none, .mv (.const (.int .i64 (-1)))⟩])
   .ret)
  .skip))
 (.seq (.seq (.ops [⟨some 5, none, .mv (.const (.int .i64 0))⟩])
  (.block 0 (.loop (.seq (.seq (.ops [⟨some 12, none, .mv (.tmp 5)⟩,
       ⟨some 13, none, .mv (.tmp 0)⟩,
       ⟨some 14, none, .len false (.tmp 13)⟩,
       ⟨some 15, none, .bin .lss 0 (.tmp 12) (.tmp 14)⟩])
     (.cond (.tmp 15) .skip
     (.exit 0)))
    (.seq (.block 1 (.seq (.ops [⟨some 18, none, .mv (.tmp 0)⟩,
        ⟨some 19, none, .mv (.tmp 5)⟩,
        ⟨some 20, none, .ia 5 (.tmp 18) (.tmp 19)⟩,
        ⟨some 21, none, .load true 5 (.tmp 20)⟩,
        ⟨some 22, none, .mv (.tmp 1)⟩,
        ⟨some 23, none, .call (.func 75) [(.tmp 21), (.tmp 22)]⟩,
        ⟨some 1, none, .mv (.tmp 23)⟩])
      (.seq (.ops [⟨some 24, none, .mv (.tmp 1)⟩,
        ⟨some 25, none, .bin .lss 0 (.tmp 24) (.const (.int .i64 0))⟩])
      (.cond (.tmp 25) (.seq (.ops [⟨some 4, none, .mv (.const (.int .i64 (-1)))⟩])
       .ret)
      .skip))))
    (.ops [⟨some 16, none, .mv (.tmp 5)⟩,
     ⟨some 17, none, .bin .add 0 (.tmp 16) (.const (.int .i64 1))⟩,
     ⟨some 5, none, .mv (.tmp 17)⟩]))))))
 (.seq (.ops [⟨some 26, none, .mv (.tmp 1)⟩,
   ⟨some 4, none, .mv (.tmp 26)⟩])
 .ret)))))
theorem C15_ok : Try.f15.body.bind (comp Try.prog) = some C15 := by kernel_rfl
theorem C15_res : compRs Try.prog Try.f15.results.toList = some [.tmp 4] := by kernel_rfl
theorem C15_nm : (Try.f15.name == "runtime.NumGoroutine") = false := by kernel_rfl
theorem C15_fn {a0 a1 : AV} {H : Heap} {Q : AV → Heap → Prop} (h : vc Try.prog C15 (vcEnd [.tmp 4] Q) H [a0, a1, .any, .any, .any, .any, .any, .any, .any, .any, .any, .any, .any, .any, .any, .any, .any, .any, .any, .any, .any, .any, .any, .any, .any, .any, .any]) : Runs Try.prog 15 [a0, a1] H Q :=
  @fn_go Try.prog mixed 15 Try.f15 C15 [.tmp 4] Try.func15 C15_ok C15_res C15_nm 27 Try.ntmps15 [a0, a1] [a0, a1, .any, .any, .any, .any, .any, .any, .any, .any, .any, .any, .any, .any, .any, .any, .any, .any, .any, .any, .any, .any, .any, .any, .any, .any, .any] H Q h 25 (by kernel_rfl) (by kernel_rfl)

/-- spec.l01In -/
def C86 : CC :=
 (.seq (.ops [⟨some 6, none, .mv (.const (.bool false))⟩])
 (.seq (.ops [⟨some 7, none, .mv (.tmp 0)⟩,
   ⟨some 8, none, .mv (.tmp 1)⟩,
   ⟨some 9, none, .bin .geq 0 (.tmp 7) (.tmp 8)⟩,
   ⟨some 10, none, .mv (.tmp 9)⟩,
   ⟨some 11, some (10, true), .mv (.tmp 0)⟩,
   ⟨some 12, some (10, true), .mv (.tmp 2)⟩,
   ⟨some 13, some (10, true), .bin .leq 0 (.tmp 11) (.tmp 12)⟩,
   ⟨some 14, none, .pick (.tmp 10) (.tmp 13) (.const (.bool false))⟩,
   ⟨some 6, none, .mv (.tmp 14)⟩])
 .ret))
theorem C86_ok : Try.f86.body.bind (comp Try.prog) = some C86 := by kernel_rfl
theorem C86_res : compRs Try.prog Try.f86.results.toList = some [.tmp 6] := by kernel_rfl
theorem C86_nm : (Try.f86.name == "runtime.NumGoroutine") = false := by kernel_rfl
theorem C86_fn {a0 a1 a2 : AV} {H : Heap} {Q : AV → Heap → Prop} (h : vc Try.prog C86 (vcEnd [.tmp 6] Q) H [a0, a1, a2, .any, .any, .any, .any, .any, .any, .any, .any, .any, .any, .any, .any]) : Runs Try.prog 86 [a0, a1, a2] H Q :=
  @fn_go Try.prog mixed 86 Try.f86 C86 [.tmp 6] Try.func86 C86_ok C86_res C86_nm 15 Try.ntmps86 [a0, a1, a2] [a0, a1, a2, .any, .any, .any, .any, .any, .any, .any, .any, .any, .any, .any, .any] H Q h 12 (by kernel_rfl) (by kernel_rfl)

/-- spec.IsAmount -/
def C98 : CC :=
 (.seq (.ops [⟨some 2, none, .mv (.const (.bool false))⟩])
 (.seq (.ops [⟨some 3, none, .mv (.tmp 0)⟩,
   ⟨some 4, none, .call (.func 86) [(.tmp 3), (.const (.int .i64 0)), (.const (.int .i64 1000000000))]⟩,
   ⟨some 2, none, .mv (.tmp 4)⟩])
 .ret))
theorem C98_ok : Try.f98.body.bind (comp Try.prog) = some C98 := by kernel_rfl
theorem C98_res : compRs Try.prog Try.f98.results.toList = some [.tmp 2] := by kernel_rfl
theorem C98_nm : (Try.f98.name == "runtime.NumGoroutine") = false := by kernel_rfl
theorem C98_fn {a0 : AV} {H : Heap} {Q : AV → Heap → Prop} (h : vc Try.prog C98 (vcEnd [.tmp 2] Q) H [a0, .any, .any, .any, .any]) : Runs Try.prog 98 [a0] H Q :=
  @fn_go Try.prog mixed 98 Try.f98 C98 [.tmp 2] Try.func98 C98_ok C98_res C98_nm 5 Try.ntmps98 [a0] [a0, .any, .any, .any, .any] H Q h 4 (by kernel_rfl) (by kernel_rfl)

/-- spec.IsPartyCode -/
def C133 : CC :=
 (.seq (.ops [⟨some 2, none, .mv (.const (.bool false))⟩])
 (.seq (.seq (.ops [⟨some 3, none, .mv (.const (.int .i64 0))⟩])
  (.block 0 (.loop (.seq (.seq (.ops [⟨some 4, none, .mv (.tmp 3)⟩,
       ⟨some 5, none, .mv (.tmp 0)⟩,
       ⟨some 6, none, .len true (.tmp 5)⟩,
       ⟨some 7, none, .bin .lss 0 (.tmp 4) (.tmp 6)⟩])
     (.cond (.tmp 7) .skip
     (.exit 0)))
    (.seq (.block 1 (.seq (.ops [⟨some 10, none, .mv (.tmp 0)⟩,
        ⟨some 11, none, .mv (.tmp 3)⟩,
        ⟨some 12, none, .idx (.tmp 10) (.tmp 11)⟩,
        ⟨some 13, none, .bin .lss 0 (.tmp 12) (.const (.int .u8 97))⟩,
        ⟨some 14, none, .mv (.tmp 13)⟩,
        ⟨some 15, some (14, false), .mv (.tmp 0)⟩,
        ⟨some 16, some (14, false), .mv (.tmp 3)⟩,
        ⟨some 17, some (14, false), .idx (.tmp 15) (.tmp 16)⟩,
        ⟨some 18, some (14, false), .bin .gtr 0 (.tmp 17) (.const (.int .u8 122))⟩,
        ⟨some 19, none, .pick (.tmp 14) (.const (.bool true)) (.tmp 18)⟩])
      (.cond (.tmp 19) (.seq (.ops [⟨some 2, none, .mv (.const (.bool false))⟩])
       .ret)
      .skip)))
    (.ops [⟨some 8, none, .mv (.tmp 3)⟩,
     ⟨some 9, none, .bin .add 0 (.tmp 8) (.const (.int .i64 1))⟩,
     ⟨some 3, none, .mv (.tmp 9)⟩]))))))
 (.seq (.ops [⟨some 20, none, .mv (.tmp 0)⟩,
   ⟨some 21, none, .len true (.tmp 20)⟩,
   ⟨some 22, none, .call (.func 86) [(.tmp 21), (.const (.int .i64 1)), (.const (.int .i64 6))]⟩,
   ⟨some 2, none, .mv (.tmp 22)⟩])
 .ret)))
theorem C133_ok : Try.f133.body.bind (comp Try.prog) = some C133 := by kernel_rfl
theorem C133_res : compRs Try.prog Try.f133.results.toList = some [.tmp 2] := by kernel_rfl
theorem C133_nm : (Try.f133.name == "runtime.NumGoroutine") = false := by kernel_rfl
theorem C133_fn {a0 : AV} {H : Heap} {Q : AV → Heap → Prop} (h : vc Try.prog C133 (vcEnd [.tmp 2] Q) H [a0, .any, .any, .any, .any, .any, .any, .any, .any, .any, .any, .any, .any, .any, .any, .any, .any, .any, .any, .any, .any, .any, .any]) : Runs Try.prog 133 [a0] H Q :=
  @fn_go Try.prog mixed 133 Try.f133 C133 [.tmp 2] Try.func133 C133_ok C133_res C133_nm 23 Try.ntmps133 [a0] [a0, .any, .any, .any, .any, .any, .any, .any, .any, .any, .any, .any, .any, .any, .any, .any, .any, .any, .any, .any, .any, .any, .any] H Q h 22 (by kernel_rfl) (by kernel_rfl)

/-- spec.AreClaims -/
def C68 : CC :=
 (.seq (.ops [⟨some 2, none, .mv (.const (.bool false))⟩])
 (.seq (.seq (.ops [⟨some 3, none, .mv (.const (.int .i64 0))⟩])
  (.block 0 (.loop (.seq (.seq (.ops [⟨some 5, none, .mv (.tmp 3)⟩,
       ⟨some 6, none, .mv (.tmp 0)⟩,
       ⟨some 7, none, .len false (.tmp 6)⟩,
       ⟨some 8, none, .bin .lss 0 (.tmp 5) (.tmp 7)⟩])
     (.cond (.tmp 8) .skip
     (.exit 0)))
    (.seq (.block 1 (.seq (.ops [⟨some 11, none, .mv (.tmp 0)⟩,
        ⟨some 12, none, .mv (.tmp 3)⟩,
        ⟨some 13, none, .ia 5 (.tmp 11) (.tmp 12)⟩,
        ⟨some 14, none, .load true 5 (.tmp 13)⟩,
        ⟨some 4, none, .alloc [.string ⟨#[]⟩, .int .i64 0, .int .i64 0, .int .i64 0, .int .i64 0]⟩,
        ⟨none, none, .store 5 (.tmp 4) (.tmp 14)⟩])
      (.seq (.draw 43 [⟨some 15, none, .fa 0 (.tmp 4)⟩,
        ⟨some 16, none, .load false 1 (.tmp 15)⟩,
        ⟨some 17, none, .call (.func 133) [(.tmp 16)]⟩,
        ⟨some 18, none, .not (.tmp 17)⟩,
        ⟨some 19, none, .mv (.tmp 18)⟩,
        ⟨some 20, some (19, false), .fa 1 (.tmp 4)⟩,
        ⟨some 21, some (19, false), .load false 1 (.tmp 20)⟩,
        ⟨some 22, some (19, false), .call (.func 86) [(.tmp 21), (.const (.int .i64 0)), (.const (.int .i64 1000))]⟩,
        ⟨some 23, some (19, false), .not (.tmp 22)⟩,
        ⟨some 24, none, .pick (.tmp 19) (.const (.bool true)) (.tmp 23)⟩,
        ⟨some 25, none, .mv (.tmp 24)⟩,
        ⟨some 26, some (25, false), .fa 2 (.tmp 4)⟩,
        ⟨some 27, some (25, false), .load false 1 (.tmp 26)⟩,
        ⟨some 28, some (25, false), .call (.func 86) [(.tmp 27), (.const (.int .i64 1)), (.const (.int .i64 100))]⟩,
        ⟨some 29, some (25, false), .not (.tmp 28)⟩,
        ⟨some 30, none, .pick (.tmp 25) (.const (.bool true)) (.tmp 29)⟩,
        ⟨some 31, none, .mv (.tmp 30)⟩,
        ⟨some 32, some (31, false), .fa 3 (.tmp 4)⟩,
        ⟨some 33, some (31, false), .load false 1 (.tmp 32)⟩,
        ⟨some 34, some (31, false), .call (.func 86) [(.tmp 33), (.const (.int .i64 1)), (.const (.int .i64 5))]⟩,
        ⟨some 35, some (31, false), .not (.tmp 34)⟩,
        ⟨some 36, none, .pick (.tmp 31) (.const (.bool true)) (.tmp 35)⟩,
        ⟨some 37, none, .mv (.tmp 36)⟩,
        ⟨some 38, some (37, false), .fa 4 (.tmp 4)⟩,
        ⟨some 39, some (37, false), .load false 1 (.tmp 38)⟩,
        ⟨some 40, some (37, false), .call (.func 98) [(.tmp 39)]⟩,
        ⟨some 41, some (37, false), .not (.tmp 40)⟩,
        ⟨some 42, none, .pick (.tmp 37) (.const (.bool true)) (.tmp 41)⟩,
        ⟨some 43, none, .mv (.tmp 42)⟩,
        ⟨some 44, some (43, false), .mv (.tmp 3)⟩,
        ⟨some 45, some (43, false), .bin .gtr 0 (.tmp 44) (.const (.int .i64 0))⟩,
        ⟨some 46, some (43, false), .mv (.tmp 45)⟩,
        ⟨some 47, some (46, true), .mv (.tmp 0)⟩,
        ⟨some 48, some (46, true), .mv (.tmp 3)⟩,
        ⟨some 49, some (46, true), .bin .sub 0 (.tmp 48) (.const (.int .i64 1))⟩,
        ⟨some 50, some (46, true), .ia 5 (.tmp 47) (.tmp 49)⟩,
        ⟨some 51, some (46, true), .fa 0 (.tmp 50)⟩,
        ⟨some 52, some (46, true), .load false 1 (.tmp 51)⟩,
        ⟨some 53, some (46, true), .fa 0 (.tmp 4)⟩,
        ⟨some 54, some (46, true), .load false 1 (.tmp 53)⟩,
        ⟨some 55, some (46, true), .bin .geq 0 (.tmp 52) (.tmp 54)⟩,
        ⟨some 56, some (43, false), .pick (.tmp 46) (.tmp 55) (.const (.bool false))⟩,
        ⟨some 57, none, .pick (.tmp 43) (.const (.bool true)) (.tmp 56)⟩])
      (.cond (.tmp 57) (.seq (.ops [⟨some 2, none, .mv (.const (.bool false))⟩])
       .ret)
      .skip))))
    (.ops [⟨some 9, none, .mv (.tmp 3)⟩,
     ⟨some 10, none, .bin .add 0 (.tmp 9) (.const (.int .i64 1))⟩,
     ⟨some 3, none, .mv (.tmp 10)⟩]))))))
 (.seq (.ops [⟨some 58, none, .mv (.tmp 0)⟩,
   ⟨some 59, none, .len false (.tmp 58)⟩,
   ⟨some 60, none, .bin .leq 0 (.tmp 59) (.const (.int .i64 8))⟩,
   ⟨some 2, none, .mv (.tmp 60)⟩])
 .ret)))
theorem C68_ok : Try.f68.body.bind (comp Try.prog) = some C68 := by kernel_rfl
theorem C68_res : compRs Try.prog Try.f68.results.toList = some [.tmp 2] := by kernel_rfl
theorem C68_nm : (Try.f68.name == "runtime.NumGoroutine") = false := by kernel_rfl
theorem C68_fn {a0 : AV} {H : Heap} {Q : AV → Heap → Prop} (h : vc Try.prog C68 (vcEnd [.tmp 2] Q) H [a0, .any, .any, .any, .any, .any, .any, .any, .any, .any, .any, .any, .any, .any, .any, .any, .any, .any, .any, .any, .any, .any, .any, .any, .any, .any, .any, .any, .any, .any, .any, .any, .any, .any, .any, .any, .any, .any, .any, .any, .any, .any, .any, .any, .any, .any, .any, .any, .any, .any, .any, .any, .any, .any, .any, .any, .any, .any, .any, .any, .any]) : Runs Try.prog 68 [a0] H Q :=
  @fn_go Try.prog mixed 68 Try.f68 C68 [.tmp 2] Try.func68 C68_ok C68_res C68_nm 61 Try.ntmps68 [a0] [a0, .any, .any, .any, .any, .any, .any, .any, .any, .any, .any, .any, .any, .any, .any, .any, .any, .any, .any, .any, .any, .any, .any, .any, .any, .any, .any, .any, .any, .any, .any, .any, .any, .any, .any, .any, .any, .any, .any, .any, .any, .any, .any, .any, .any, .any, .any, .any, .any, .any, .any, .any, .any, .any, .any, .any, .any, .any, .any, .any, .any] H Q h 60 (by kernel_rfl) (by kernel_rfl)

/-- spec.l22Merit -/
def C76 : CC :=
 (.seq (.ops [⟨some 1, none, .box (.tmp 0)⟩,
   ⟨some 2, none, .mv (.const (.int .i64 0))⟩])
 (.seq (.ops [⟨some 3, none, .fa 1 (.tmp 1)⟩,
   ⟨some 4, none, .load false 1 (.tmp 3)⟩,
   ⟨some 5, none, .fa 2 (.tmp 1)⟩,
   ⟨some 6, none, .load false 1 (.tmp 5)⟩,
   ⟨some 7, none, .bin .mul 0 (.tmp 4) (.tmp 6)⟩,
   ⟨some 8, none, .fa 3 (.tmp 1)⟩,
   ⟨some 9, none, .load false 1 (.tmp 8)⟩,
   ⟨some 10, none, .bin .mul 0 (.tmp 7) (.tmp 9)⟩,
   ⟨some 2, none, .mv (.tmp 10)⟩])
 .ret))
theorem C76_ok : Try.f76.body.bind (comp Try.prog) = some C76 := by kernel_rfl
theorem C76_res : compRs Try.prog Try.f76.results.toList = some [.tmp 2] := by kernel_rfl
theorem C76_nm : (Try.f76.name == "runtime.NumGoroutine") = false := by kernel_rfl
theorem C76_fn {a0 : AV} {H : Heap} {Q : AV → Heap → Prop} (h : vc Try.prog C76 (vcEnd [.tmp 2] Q) H [a0, .any, .any, .any, .any, .any, .any, .any, .any, .any, .any]) : Runs Try.prog 76 [a0] H Q :=
  @fn_go Try.prog mixed 76 Try.f76 C76 [.tmp 2] Try.func76 C76_ok C76_res C76_nm 11 Try.ntmps76 [a0] [a0, .any, .any, .any, .any, .any, .any, .any, .any, .any, .any] H Q h 10 (by kernel_rfl) (by kernel_rfl)

/-- spec.BestSalvor -/
def C16 : CC :=
 (.seq (.ops [⟨some 2, none, .mv (.const (.string ⟨#[]⟩))⟩,
   ⟨some 3, none, .mv (.const (.int .i64 0))⟩])
 (.seq (.seq (.ops [⟨some 6, none, .mv (.tmp 0)⟩,
    ⟨some 7, none, .call (.func 68) [(.tmp 6)]⟩,
    ⟨some 8, none, .not (.tmp 7)⟩])
  (.cond (.tmp 8) (.seq (.ops [⟨some 2, none, .mv (.const (.string ⟨#[]⟩))⟩,
     ⟨some 3, none, .mv (.const (.int .i64 1))⟩])
   .ret)
  .skip))
 (.seq (.seq (.ops [⟨some 9, none, .mv (.tmp 0)⟩,
    ⟨some 10, none, .len false (.tmp 9)⟩,
    ⟨some 11, none, .bin .eql 0 (.tmp 10) (.const (.int .i64 0))⟩])
  (.cond (.tmp 11) (.seq (.ops [⟨some 2, none, .mv (.const (.string ⟨#[]⟩))⟩,
     ⟨some 3, none, .mv (.const (.int .i64 4))⟩])
   .ret)
  .skip))
 (.seq (.ops [⟨some 4, none, .mv (.const (.int .i64 0))⟩])
 (.seq (.seq (.ops [⟨some 5, none, .mv (.const (.int .i64 0))⟩])
  (.block 0 (.loop (.seq (.seq (.ops [⟨some 12, none, .mv (.tmp 5)⟩,
       ⟨some 13, none, .mv (.tmp 0)⟩,
       ⟨some 14, none, .len false (.tmp 13)⟩,
       ⟨some 15, none, .bin .lss 0 (.tmp 12) (.tmp 14)⟩])
     (.cond (.tmp 15) .skip
     (.exit 0)))
    (.seq (.block 1 (.seq (.draw 11 [⟨some 18, none, .mv (.tmp 0)⟩,
        ⟨some 19, none, .mv (.tmp 5)⟩,
        ⟨some 20, none, .ia 5 (.tmp 18) (.tmp 19)⟩,
        ⟨some 21, none, .load true 5 (.tmp 20)⟩,
        ⟨some 22, none, .call (.func 76) [(.tmp 21)]⟩,
        ⟨some 23, none, .mv (.tmp 0)⟩,
        ⟨some 24, none, .mv (.tmp 4)⟩,
        ⟨some 25, none, .ia 5 (.tmp 23) (.tmp 24)⟩,
        ⟨some 26, none, .load true 5 (.tmp 25)⟩,
        ⟨some 27, none, .call (.func 76) [(.tmp 26)]⟩,
        ⟨some 28, none, .bin .gtr 0 (.tmp 22) (.tmp 27)⟩])
      (.cond (.tmp 28) (.ops [⟨some 29, none, .mv (.tmp 5)⟩,
        ⟨some 4, none, .mv (.tmp 29)⟩])
      .skip)))
    (.ops [⟨some 16, none, .mv (.tmp 5)⟩,
     ⟨some 17, none, .bin .add 0 (.tmp 16) (.const (.int .i64 1))⟩,
     ⟨some 5, none, .mv (.tmp 17)⟩]))))))
 (.seq (.ops [⟨some 30, none, .mv (.tmp 0)⟩,
   ⟨some 31, none, .mv (.tmp 4)⟩,
   ⟨some 32, none, .ia 5 (.tmp 30) (.tmp 31)⟩,
   ⟨some 33, none, .fa 0 (.tmp 32)⟩,
   ⟨some 34, none, .load false 1 (.tmp 33)⟩,
   ⟨some 2, none, .mv (.tmp 34)⟩,
   ⟨some 3, none, .mv (.const (.int .i64 0))⟩])
 .ret))))))
theorem C16_ok : Try.f16.body.bind (comp Try.prog) = some C16 := by kernel_rfl
theorem C16_res : compRs Try.prog Try.f16.results.toList = some [.tmp 2, .tmp 3] := by kernel_rfl
theorem C16_nm : (Try.f16.name == "runtime.NumGoroutine") = false := by kernel_rfl
theorem C16_fn {a0 : AV} {H : Heap} {Q : AV → Heap → Prop} (h : vc Try.prog C16 (vcEnd [.tmp 2, .tmp 3] Q) H [a0, .any, .any, .any, .any, .any, .any, .any, .any, .any, .any, .any, .any, .any, .any, .any, .any, .any, .any, .any, .any, .any, .any, .any, .any, .any, .any, .any, .any, .any, .any, .any, .any, .any, .any]) : Runs Try.prog 16 [a0] H Q :=
  @fn_go Try.prog mixed 16 Try.f16 C16 [.tmp 2, .tmp 3] Try.func16 C16_ok C16_res C16_nm 35 Try.ntmps16 [a0] [a0, .any, .any, .any, .any, .any, .any, .any, .any, .any, .any, .any, .any, .any, .any, .any, .any, .any, .any, .any, .any, .any, .any, .any, .any, .any, .any, .any, .any, .any, .any, .any, .any, .any, .any] H Q h 34 (by kernel_rfl) (by kernel_rfl)

/-- laws.toClaim -/
def C77 : CC :=
 (.seq (.ops [⟨some 1, none, .box (.tmp 0)⟩,
   ⟨some 2, none, .alloc [.string ⟨#[]⟩, .int .i64 0, .int .i64 0, .int .i64 0, .int .i64 0]⟩])
 (.seq (.ops [⟨some 3, none, .alloc [.string ⟨#[]⟩, .int .i64 0, .int .i64 0, .int .i64 0, .int .i64 0]⟩])
 (.seq (.ops [⟨some 4, none, .fa 0 (.tmp 1)⟩,
   ⟨some 5, none, .load false 1 (.tmp 4)⟩,
   ⟨some 6, none, .fa 0 (.tmp 3)⟩,
   ⟨none, none, .store 1 (.tmp 6) (.tmp 5)⟩])
 (.seq (.ops [⟨some 7, none, .fa 1 (.tmp 1)⟩,
   ⟨some 8, none, .load false 1 (.tmp 7)⟩,
   ⟨some 9, none, .fa 1 (.tmp 3)⟩,
   ⟨none, none, .store 1 (.tmp 9) (.tmp 8)⟩])
 (.seq (.ops [⟨some 10, none, .fa 2 (.tmp 1)⟩,
   ⟨some 11, none, .load false 1 (.tmp 10)⟩,
   ⟨some 12, none, .fa 2 (.tmp 3)⟩,
   ⟨none, none, .store 1 (.tmp 12) (.tmp 11)⟩])
 (.seq (.ops [⟨some 13, none, .fa 3 (.tmp 1)⟩,
   ⟨some 14, none, .load false 1 (.tmp 13)⟩,
   ⟨some 15, none, .fa 3 (.tmp 3)⟩,
   ⟨none, none, .store 1 (.tmp 15) (.tmp 14)⟩])
 (.seq (.ops [⟨some 16, none, .fa 4 (.tmp 1)⟩,
   ⟨some 17, none, .load false 1 (.tmp 16)⟩,
   ⟨some 18, none, .fa 4 (.tmp 3)⟩,
   ⟨none, none, .store 1 (.tmp 18) (.tmp 17)⟩])
 (.seq (.ops [⟨some 19, none, .load true 5 (.tmp 3)⟩,
   ⟨none, none, .store 5 (.tmp 2) (.tmp 19)⟩])
 .ret))))))))
theorem C77_ok : Try.f77.body.bind (comp Try.prog) = some C77 := by kernel_rfl
theorem C77_res : compRs Try.prog Try.f77.results.toList = some [.cell true 5 2] := by kernel_rfl
theorem C77_nm : (Try.f77.name == "runtime.NumGoroutine") = false := by kernel_rfl
theorem C77_fn {a0 : AV} {H : Heap} {Q : AV → Heap → Prop} (h : vc Try.prog C77 (vcEnd [.cell true 5 2] Q) H [a0, .any, .any, .any, .any, .any, .any, .any, .any, .any, .any, .any, .any, .any, .any, .any, .any, .any, .any, .any]) : Runs Try.prog 77 [a0] H Q :=
  @fn_go Try.prog mixed 77 Try.f77 C77 [.cell true 5 2] Try.func77 C77_ok C77_res C77_nm 20 Try.ntmps77 [a0] [a0, .any, .any, .any, .any, .any, .any, .any, .any, .any, .any, .any, .any, .any, .any, .any, .any, .any, .any, .any] H Q h 19 (by kernel_rfl) (by kernel_rfl)

/-- laws.toClaimS -/
def C17 : CC :=
 (.seq (.ops [⟨some 2, none, .mv (.const (.slice none 0 0))⟩])
 (.seq (.ops [⟨some 5, none, .mv (.tmp 0)⟩,
   ⟨some 6, none, .len false (.tmp 5)⟩,
   ⟨some 7, none, .mks [.string ⟨#[]⟩, .int .i64 0, .int .i64 0, .int .i64 0, .int .i64 0] 48 (.tmp 6)⟩,
   ⟨some 3, none, .mv (.tmp 7)⟩])
 (.seq (.seq (.ops [⟨some 4, none, .mv (.const (.int .i64 0))⟩])
  (.block 0 (.loop (.seq (.seq (.ops [⟨some 8, none, .mv (.tmp 4)⟩,
       ⟨some 9, none, .mv (.tmp 0)⟩,
       ⟨some 10, none, .len false (.tmp 9)⟩,
       ⟨some 11, none, .bin .lss 0 (.tmp 8) (.tmp 10)⟩])
     (.cond (.tmp 11) .skip
     (.exit 0)))
    (.seq (.block 1 (.ops [⟨some 14, none, .mv (.tmp 3)⟩,
       ⟨some 15, none, .mv (.tmp 4)⟩,
       ⟨some 16, none, .mv (.tmp 0)⟩,
       ⟨some 17, none, .mv (.tmp 4)⟩,
       ⟨some 18, none, .ia 5 (.tmp 16) (.tmp 17)⟩,
       ⟨some 19, none, .load true 5 (.tmp 18)⟩,
       ⟨some 20, none, .call (.func 77) [(.tmp 19)]⟩,
       ⟨some 21, none, .ia 5 (.tmp 14) (.tmp 15)⟩,
       ⟨none, none, .store 5 (.tmp 21) (.tmp 20)⟩]))
    (.ops [⟨some 12, none, .mv (.tmp 4)⟩,
     ⟨some 13, none, .bin .add 0 (.tmp 12) (.const (.int .i64 1))⟩,
     ⟨some 4, none, .mv (.tmp 13)⟩]))))))
 (.seq (.ops [⟨some 22, none, .mv (.tmp 3)⟩,
   ⟨some 2, none, .mv (.tmp 22)⟩])
 .ret))))
theorem C17_ok : Try.f17.body.bind (comp Try.prog) = some C17 := by kernel_rfl
theorem C17_res : compRs Try.prog Try.f17.results.toList = some [.tmp 2] := by kernel_rfl
theorem C17_nm : (Try.f17.name == "runtime.NumGoroutine") = false := by kernel_rfl
theorem C17_fn {a0 : AV} {H : Heap} {Q : AV → Heap → Prop} (h : vc Try.prog C17 (vcEnd [.tmp 2] Q) H [a0, .any, .any, .any, .any, .any, .any, .any, .any, .any, .any, .any, .any, .any, .any, .any, .any, .any, .any, .any, .any, .any, .any]) : Runs Try.prog 17 [a0] H Q :=
  @fn_go Try.prog mixed 17 Try.f17 C17 [.tmp 2] Try.func17 C17_ok C17_res C17_nm 23 Try.ntmps17 [a0] [a0, .any, .any, .any, .any, .any, .any, .any, .any, .any, .any, .any, .any, .any, .any, .any, .any, .any, .any, .any, .any, .any, .any] H Q h 22 (by kernel_rfl) (by kernel_rfl)

/-- slices.IndexFunc[[]impl.Claim,impl.Claim] -/
def C151 : CC :=
 (.seq (.ops [⟨some 4, none, .mv (.const (.int .i64 0))⟩])
 (.seq (.seq (.ops [⟨some 6, none, .mv (.tmp 0)⟩,
    ⟨some 7, none, .len false (.tmp 6)⟩,
    ⟨some 8, none, .mv (.const (.int .i64 0))⟩])
  (.block 0 (.loop (.seq (.ops [⟨some 9, none, .bin .lss 0 (.tmp 8) (.tmp 7)⟩])
    (.seq (.cond (.tmp 9) .skip
     (.exit 0))
    (.seq (.block 1 (.seq (.ops [⟨some 10, none, .mv (.tmp 8)⟩,
        ⟨some 5, none, .mv (.tmp 10)⟩])
      (.seq (.ops [⟨some 11, none, .mv (.tmp 1)⟩,
        ⟨some 12, none, .mv (.tmp 0)⟩,
        ⟨some 13, none, .mv (.tmp 5)⟩,
        ⟨some 14, none, .ia 5 (.tmp 12) (.tmp 13)⟩,
        ⟨some 15, none, .load true 5 (.tmp 14)⟩,
        ⟨some 16, none, .call (.tmp 11) [(.tmp 15)]⟩])
      (.cond (.tmp 16) (.seq (.ops [⟨some 17, none, .mv (.tmp 5)⟩,
         ⟨some 4, none, .mv (.tmp 17)⟩])
       .ret)
      .skip))))
    (.ops [⟨some 18, none, .bin .add 0 (.tmp 8) (.const (.int .i64 1))⟩,
     ⟨some 8, none, .mv (.tmp 18)⟩])))))))
 (.seq (.ops [⟨some 4, none, .mv (.const (.int .i64 (-1)))⟩])
 .ret)))
theorem C151_ok : Try.f151.body.bind (comp Try.prog) = some C151 := by kernel_rfl
theorem C151_res : compRs Try.prog Try.f151.results.toList = some [.tmp 4] := by kernel_rfl
theorem C151_nm : (Try.f151.name == "runtime.NumGoroutine") = false := by kernel_rfl
theorem C151_fn {a0 a1 : AV} {H : Heap} {Q : AV → Heap → Prop} (h : vc Try.prog C151 (vcEnd [.tmp 4] Q) H [a0, a1, .any, .any, .any, .any, .any, .any, .any, .any, .any, .any, .any, .any, .any, .any, .any, .any, .any]) : Runs Try.prog 151 [a0, a1] H Q :=
  @fn_go Try.prog mixed 151 Try.f151 C151 [.tmp 4] Try.func151 C151_ok C151_res C151_nm 19 Try.ntmps151 [a0, a1] [a0, a1, .any, .any, .any, .any, .any, .any, .any, .any, .any, .any, .any, .any, .any, .any, .any, .any, .any] H Q h 17 (by kernel_rfl) (by kernel_rfl)

/-- slices.ContainsFunc[[]impl.Claim,impl.Claim] -/
def C152 : CC :=
 (.seq (.ops [⟨some 4, none, .mv (.const (.bool false))⟩])
 (.seq (.ops [⟨some 5, none, .mv (.tmp 0)⟩,
   ⟨some 6, none, .mv (.tmp 1)⟩,
   ⟨some 7, none, .call (.func 151) [(.tmp 5), (.tmp 6)]⟩,
   ⟨some 8, none, .bin .geq 0 (.tmp 7) (.const (.int .i64 0))⟩,
   ⟨some 4, none, .mv (.tmp 8)⟩])
 .ret))
theorem C152_ok : Try.f152.body.bind (comp Try.prog) = some C152 := by kernel_rfl
theorem C152_res : compRs Try.prog Try.f152.results.toList = some [.tmp 4] := by kernel_rfl
theorem C152_nm : (Try.f152.name == "runtime.NumGoroutine") = false := by kernel_rfl
theorem C152_fn {a0 a1 : AV} {H : Heap} {Q : AV → Heap → Prop} (h : vc Try.prog C152 (vcEnd [.tmp 4] Q) H [a0, a1, .any, .any, .any, .any, .any, .any, .any]) : Runs Try.prog 152 [a0, a1] H Q :=
  @fn_go Try.prog mixed 152 Try.f152 C152 [.tmp 4] Try.func152 C152_ok C152_res C152_nm 9 Try.ntmps152 [a0, a1] [a0, a1, .any, .any, .any, .any, .any, .any, .any] H Q h 7 (by kernel_rfl) (by kernel_rfl)

/-- impl.all[impl.Claim]$1 -/
def C153 : CC :=
 (.seq (.ops [⟨some 2, none, .box (.tmp 0)⟩,
   ⟨some 3, none, .mv (.const (.bool false))⟩])
 (.seq (.ops [⟨some 4, none, .load false 1 (.tmp 1)⟩,
   ⟨some 5, none, .load true 5 (.tmp 2)⟩,
   ⟨some 6, none, .call (.tmp 4) [(.tmp 5)]⟩,
   ⟨some 7, none, .not (.tmp 6)⟩,
   ⟨some 3, none, .mv (.tmp 7)⟩])
 .ret))
theorem C153_ok : Try.f153.body.bind (comp Try.prog) = some C153 := by kernel_rfl
theorem C153_res : compRs Try.prog Try.f153.results.toList = some [.tmp 3] := by kernel_rfl
theorem C153_nm : (Try.f153.name == "runtime.NumGoroutine") = false := by kernel_rfl
theorem C153_fn {a0 a1 : AV} {H : Heap} {Q : AV → Heap → Prop} (h : vc Try.prog C153 (vcEnd [.tmp 3] Q) H [a0, a1, .any, .any, .any, .any, .any, .any]) : Runs Try.prog 153 [a0, a1] H Q :=
  @fn_go Try.prog mixed 153 Try.f153 C153 [.tmp 3] Try.func153 C153_ok C153_res C153_nm 8 Try.ntmps153 [a0, a1] [a0, a1, .any, .any, .any, .any, .any, .any] H Q h 6 (by kernel_rfl) (by kernel_rfl)

/-- impl.all[impl.Claim] -/
def C129 : CC :=
 (.seq (.ops [⟨some 3, none, .box (.tmp 1)⟩,
   ⟨some 4, none, .mv (.const (.bool false))⟩])
 (.seq (.ops [⟨some 5, none, .mv (.tmp 0)⟩,
   ⟨some 6, none, .mkf 153 [(.tmp 3)]⟩,
   ⟨some 7, none, .call (.func 152) [(.tmp 5), (.tmp 6)]⟩,
   ⟨some 8, none, .not (.tmp 7)⟩,
   ⟨some 4, none, .mv (.tmp 8)⟩])
 .ret))
theorem C129_ok : Try.f129.body.bind (comp Try.prog) = some C129 := by kernel_rfl
theorem C129_res : compRs Try.prog Try.f129.results.toList = some [.tmp 4] := by kernel_rfl
theorem C129_nm : (Try.f129.name == "runtime.NumGoroutine") = false := by kernel_rfl
theorem C129_fn {a0 a1 : AV} {H : Heap} {Q : AV → Heap → Prop} (h : vc Try.prog C129 (vcEnd [.tmp 4] Q) H [a0, a1, .any, .any, .any, .any, .any, .any, .any]) : Runs Try.prog 129 [a0, a1] H Q :=
  @fn_go Try.prog mixed 129 Try.f129 C129 [.tmp 4] Try.func129 C129_ok C129_res C129_nm 9 Try.ntmps129 [a0, a1] [a0, a1, .any, .any, .any, .any, .any, .any, .any] H Q h 7 (by kernel_rfl) (by kernel_rfl)

/-- impl.in -/
def C87 : CC :=
 (.seq (.ops [⟨some 6, none, .mv (.const (.bool false))⟩])
 (.seq (.ops [⟨some 7, none, .mv (.tmp 0)⟩,
   ⟨some 8, none, .mv (.tmp 1)⟩,
   ⟨some 9, none, .bin .geq 0 (.tmp 7) (.tmp 8)⟩,
   ⟨some 10, none, .mv (.tmp 9)⟩,
   ⟨some 11, some (10, true), .mv (.tmp 0)⟩,
   ⟨some 12, some (10, true), .mv (.tmp 2)⟩,
   ⟨some 13, some (10, true), .bin .leq 0 (.tmp 11) (.tmp 12)⟩,
   ⟨some 14, none, .pick (.tmp 10) (.tmp 13) (.const (.bool false))⟩,
   ⟨some 6, none, .mv (.tmp 14)⟩])
 .ret))
theorem C87_ok : Try.f87.body.bind (comp Try.prog) = some C87 := by kernel_rfl
theorem C87_res : compRs Try.prog Try.f87.results.toList = some [.tmp 6] := by kernel_rfl
theorem C87_nm : (Try.f87.name == "runtime.NumGoroutine") = false := by kernel_rfl
theorem C87_fn {a0 a1 a2 : AV} {H : Heap} {Q : AV → Heap → Prop} (h : vc Try.prog C87 (vcEnd [.tmp 6] Q) H [a0, a1, a2, .any, .any, .any, .any, .any, .any, .any, .any, .any, .any, .any, .any]) : Runs Try.prog 87 [a0, a1, a2] H Q :=
  @fn_go Try.prog mixed 87 Try.f87 C87 [.tmp 6] Try.func87 C87_ok C87_res C87_nm 15 Try.ntmps87 [a0, a1, a2] [a0, a1, a2, .any, .any, .any, .any, .any, .any, .any, .any, .any, .any, .any, .any] H Q h 12 (by kernel_rfl) (by kernel_rfl)

/-- impl.IsAmount -/
def C100 : CC :=
 (.seq (.ops [⟨some 2, none, .mv (.const (.bool false))⟩])
 (.seq (.ops [⟨some 3, none, .mv (.tmp 0)⟩,
   ⟨some 4, none, .call (.func 87) [(.tmp 3), (.const (.int .i64 0)), (.const (.int .i64 1000000000))]⟩,
   ⟨some 2, none, .mv (.tmp 4)⟩])
 .ret))
theorem C100_ok : Try.f100.body.bind (comp Try.prog) = some C100 := by kernel_rfl
theorem C100_res : compRs Try.prog Try.f100.results.toList = some [.tmp 2] := by kernel_rfl
theorem C100_nm : (Try.f100.name == "runtime.NumGoroutine") = false := by kernel_rfl
theorem C100_fn {a0 : AV} {H : Heap} {Q : AV → Heap → Prop} (h : vc Try.prog C100 (vcEnd [.tmp 2] Q) H [a0, .any, .any, .any, .any]) : Runs Try.prog 100 [a0] H Q :=
  @fn_go Try.prog mixed 100 Try.f100 C100 [.tmp 2] Try.func100 C100_ok C100_res C100_nm 5 Try.ntmps100 [a0] [a0, .any, .any, .any, .any] H Q h 4 (by kernel_rfl) (by kernel_rfl)

/-- impl.spelled -/
def C159 : CC :=
 (.seq (.ops [⟨some 10, none, .mv (.const (.bool false))⟩])
 (.seq (.seq (.ops [⟨some 12, none, .mv (.tmp 0)⟩,
    ⟨some 13, none, .len true (.tmp 12)⟩,
    ⟨some 14, none, .mv (.const (.int .i64 0))⟩])
  (.block 0 (.loop (.seq (.ops [⟨some 15, none, .bin .lss 0 (.tmp 14) (.tmp 13)⟩])
    (.seq (.cond (.tmp 15) .skip
     (.exit 0))
    (.seq (.block 1 (.seq (.ops [⟨some 16, none, .mv (.tmp 14)⟩,
        ⟨some 11, none, .mv (.tmp 16)⟩])
      (.seq (.ops [⟨some 17, none, .mv (.tmp 0)⟩,
        ⟨some 18, none, .mv (.tmp 11)⟩,
        ⟨some 19, none, .idx (.tmp 17) (.tmp 18)⟩,
        ⟨some 20, none, .mv (.tmp 3)⟩,
        ⟨some 21, none, .bin .lss 0 (.tmp 19) (.tmp 20)⟩,
        ⟨some 22, none, .mv (.tmp 21)⟩,
        ⟨some 23, some (22, false), .mv (.tmp 0)⟩,
        ⟨some 24, some (22, false), .mv (.tmp 11)⟩,
        ⟨some 25, some (22, false), .idx (.tmp 23) (.tmp 24)⟩,
        ⟨some 26, some (22, false), .mv (.tmp 4)⟩,
        ⟨some 27, some (22, false), .bin .gtr 0 (.tmp 25) (.tmp 26)⟩,
        ⟨some 28, none, .pick (.tmp 22) (.const (.bool true)) (.tmp 27)⟩])
      (.cond (.tmp 28) (.seq (.ops [⟨some 10, none, .mv (.const (.bool false))⟩])
       .ret)
      .skip))))
    (.ops [⟨some 29, none, .bin .add 0 (.tmp 14) (.const (.int .i64 1))⟩,
     ⟨some 14, none, .mv (.tmp 29)⟩])))))))
 (.seq (.ops [⟨some 30, none, .mv (.tmp 0)⟩,
   ⟨some 31, none, .len true (.tmp 30)⟩,
   ⟨some 32, none, .mv (.tmp 1)⟩,
   ⟨some 33, none, .bin .geq 0 (.tmp 31) (.tmp 32)⟩,
   ⟨some 34, none, .mv (.tmp 33)⟩,
   ⟨some 35, some (34, true), .mv (.tmp 0)⟩,
   ⟨some 36, some (34, true), .len true (.tmp 35)⟩,
   ⟨some 37, some (34, true), .mv (.tmp 2)⟩,
   ⟨some 38, some (34, true), .bin .leq 0 (.tmp 36) (.tmp 37)⟩,
   ⟨some 39, none, .pick (.tmp 34) (.tmp 38) (.const (.bool false))⟩,
   ⟨some 10, none, .mv (.tmp 39)⟩])
 .ret)))
theorem C159_ok : Try.f159.body.bind (comp Try.prog) = some C159 := by kernel_rfl
theorem C159_res : compRs Try.prog Try.f159.results.toList = some [.tmp 10] := by kernel_rfl
theorem C159_nm : (Try.f159.name == "runtime.NumGoroutine") = false := by kernel_rfl
theorem C159_fn {a0 a1 a2 a3 a4 : AV} {H : Heap} {Q : AV → Heap → Prop} (h : vc Try.prog C159 (vcEnd [.tmp 10] Q) H [a0, a1, a2, a3, a4, .any, .any, .any, .any, .any, .any, .any, .any, .any, .any, .any, .any, .any, .any, .any, .any, .any, .any, .any, .any, .any, .any, .any, .any, .any, .any, .any, .any, .any, .any, .any, .any, .any, .any, .any]) : Runs Try.prog 159 [a0, a1, a2, a3, a4] H Q :=
  @fn_go Try.prog mixed 159 Try.f159 C159 [.tmp 10] Try.func159 C159_ok C159_res C159_nm 40 Try.ntmps159 [a0, a1, a2, a3, a4] [a0, a1, a2, a3, a4, .any, .any, .any, .any, .any, .any, .any, .any, .any, .any, .any, .any, .any, .any, .any, .any, .any, .any, .any, .any, .any, .any, .any, .any, .any, .any, .any, .any, .any, .any, .any, .any, .any, .any, .any] H Q h 35 (by kernel_rfl) (by kernel_rfl)

/-- impl.IsPartyCode -/
def C139 : CC :=
 (.seq (.ops [⟨some 2, none, .mv (.const (.bool false))⟩])
 (.seq (.ops [⟨some 3, none, .mv (.tmp 0)⟩,
   ⟨some 4, none, .call (.func 159) [(.tmp 3), (.const (.int .i64 1)), (.const (.int .i64 6)), (.const (.int .u8 97)), (.const (.int .u8 122))]⟩,
   ⟨some 2, none, .mv (.tmp 4)⟩])
 .ret))
theorem C139_ok : Try.f139.body.bind (comp Try.prog) = some C139 := by kernel_rfl
theorem C139_res : compRs Try.prog Try.f139.results.toList = some [.tmp 2] := by kernel_rfl
theorem C139_nm : (Try.f139.name == "runtime.NumGoroutine") = false := by kernel_rfl
theorem C139_fn {a0 : AV} {H : Heap} {Q : AV → Heap → Prop} (h : vc Try.prog C139 (vcEnd [.tmp 2] Q) H [a0, .any, .any, .any, .any]) : Runs Try.prog 139 [a0] H Q :=
  @fn_go Try.prog mixed 139 Try.f139 C139 [.tmp 2] Try.func139 C139_ok C139_res C139_nm 5 Try.ntmps139 [a0] [a0, .any, .any, .any, .any] H Q h 4 (by kernel_rfl) (by kernel_rfl)

/-- impl.isClaim -/
def C130 : CC :=
 (.seq (.ops [⟨some 1, none, .box (.tmp 0)⟩,
   ⟨some 2, none, .mv (.const (.bool false))⟩])
 (.seq (.ops [⟨some 3, none, .fa 0 (.tmp 1)⟩,
   ⟨some 4, none, .load false 1 (.tmp 3)⟩,
   ⟨some 5, none, .call (.func 139) [(.tmp 4)]⟩,
   ⟨some 6, none, .mv (.tmp 5)⟩,
   ⟨some 7, some (6, true), .fa 1 (.tmp 1)⟩,
   ⟨some 8, some (6, true), .load false 1 (.tmp 7)⟩,
   ⟨some 9, some (6, true), .call (.func 87) [(.tmp 8), (.const (.int .i64 0)), (.const (.int .i64 1000))]⟩,
   ⟨some 10, none, .pick (.tmp 6) (.tmp 9) (.const (.bool false))⟩,
   ⟨some 11, none, .mv (.tmp 10)⟩,
   ⟨some 12, some (11, true), .fa 2 (.tmp 1)⟩,
   ⟨some 13, some (11, true), .load false 1 (.tmp 12)⟩,
   ⟨some 14, some (11, true), .call (.func 87) [(.tmp 13), (.const (.int .i64 1)), (.const (.int .i64 100))]⟩,
   ⟨some 15, none, .pick (.tmp 11) (.tmp 14) (.const (.bool false))⟩,
   ⟨some 16, none, .mv (.tmp 15)⟩,
   ⟨some 17, some (16, true), .fa 3 (.tmp 1)⟩,
   ⟨some 18, some (16, true), .load false 1 (.tmp 17)⟩,
   ⟨some 19, some (16, true), .call (.func 87) [(.tmp 18), (.const (.int .i64 1)), (.const (.int .i64 5))]⟩,
   ⟨some 20, none, .pick (.tmp 16) (.tmp 19) (.const (.bool false))⟩,
   ⟨some 21, none, .mv (.tmp 20)⟩,
   ⟨some 22, some (21, true), .fa 4 (.tmp 1)⟩,
   ⟨some 23, some (21, true), .load false 1 (.tmp 22)⟩,
   ⟨some 24, some (21, true), .call (.func 100) [(.tmp 23)]⟩,
   ⟨some 25, none, .pick (.tmp 21) (.tmp 24) (.const (.bool false))⟩,
   ⟨some 2, none, .mv (.tmp 25)⟩])
 .ret))
theorem C130_ok : Try.f130.body.bind (comp Try.prog) = some C130 := by kernel_rfl
theorem C130_res : compRs Try.prog Try.f130.results.toList = some [.tmp 2] := by kernel_rfl
theorem C130_nm : (Try.f130.name == "runtime.NumGoroutine") = false := by kernel_rfl
theorem C130_fn {a0 : AV} {H : Heap} {Q : AV → Heap → Prop} (h : vc Try.prog C130 (vcEnd [.tmp 2] Q) H [a0, .any, .any, .any, .any, .any, .any, .any, .any, .any, .any, .any, .any, .any, .any, .any, .any, .any, .any, .any, .any, .any, .any, .any, .any, .any]) : Runs Try.prog 130 [a0] H Q :=
  @fn_go Try.prog mixed 130 Try.f130 C130 [.tmp 2] Try.func130 C130_ok C130_res C130_nm 26 Try.ntmps130 [a0] [a0, .any, .any, .any, .any, .any, .any, .any, .any, .any, .any, .any, .any, .any, .any, .any, .any, .any, .any, .any, .any, .any, .any, .any, .any, .any] H Q h 25 (by kernel_rfl) (by kernel_rfl)

/-- impl.rising[impl.Claim] -/
def C131 : CC :=
 (.seq (.ops [⟨some 4, none, .mv (.const (.bool false))⟩])
 (.seq (.seq (.ops [⟨some 5, none, .mv (.const (.int .i64 1))⟩])
  (.block 0 (.loop (.seq (.seq (.ops [⟨some 6, none, .mv (.tmp 5)⟩,
       ⟨some 7, none, .mv (.tmp 0)⟩,
       ⟨some 8, none, .len false (.tmp 7)⟩,
       ⟨some 9, none, .bin .lss 0 (.tmp 6) (.tmp 8)⟩])
     (.cond (.tmp 9) .skip
     (.exit 0)))
    (.seq (.block 1 (.seq (.draw 12 [⟨some 12, none, .mv (.tmp 1)⟩,
        ⟨some 13, none, .mv (.tmp 0)⟩,
        ⟨some 14, none, .mv (.tmp 5)⟩,
        ⟨some 15, none, .bin .sub 0 (.tmp 14) (.const (.int .i64 1))⟩,
        ⟨some 16, none, .ia 5 (.tmp 13) (.tmp 15)⟩,
        ⟨some 17, none, .load true 5 (.tmp 16)⟩,
        ⟨some 18, none, .mv (.tmp 0)⟩,
        ⟨some 19, none, .mv (.tmp 5)⟩,
        ⟨some 20, none, .ia 5 (.tmp 18) (.tmp 19)⟩,
        ⟨some 21, none, .load true 5 (.tmp 20)⟩,
        ⟨some 22, none, .call (.tmp 12) [(.tmp 17), (.tmp 21)]⟩,
        ⟨some 23, none, .bin .geq 0 (.tmp 22) (.const (.int .i64 0))⟩])
      (.cond (.tmp 23) (.seq (.ops [⟨some 4, none, .mv (.const (.bool false))⟩])
       .ret)
      .skip)))
    (.ops [⟨some 10, none, .mv (.tmp 5)⟩,
     ⟨some 11, none, .bin .add 0 (.tmp 10) (.const (.int .i64 1))⟩,
     ⟨some 5, none, .mv (.tmp 11)⟩]))))))
 (.seq (.ops [⟨some 4, none, .mv (.const (.bool true))⟩])
 .ret)))
theorem C131_ok : Try.f131.body.bind (comp Try.prog) = some C131 := by kernel_rfl
theorem C131_res : compRs Try.prog Try.f131.results.toList = some [.tmp 4] := by kernel_rfl
theorem C131_nm : (Try.f131.name == "runtime.NumGoroutine") = false := by kernel_rfl
theorem C131_fn {a0 a1 : AV} {H : Heap} {Q : AV → Heap → Prop} (h : vc Try.prog C131 (vcEnd [.tmp 4] Q) H [a0, a1, .any, .any, .any, .any, .any, .any, .any, .any, .any, .any, .any, .any, .any, .any, .any, .any, .any, .any, .any, .any, .any, .any]) : Runs Try.prog 131 [a0, a1] H Q :=
  @fn_go Try.prog mixed 131 Try.f131 C131 [.tmp 4] Try.func131 C131_ok C131_res C131_nm 24 Try.ntmps131 [a0, a1] [a0, a1, .any, .any, .any, .any, .any, .any, .any, .any, .any, .any, .any, .any, .any, .any, .any, .any, .any, .any, .any, .any, .any, .any] H Q h 22 (by kernel_rfl) (by kernel_rfl)

/-- internal/bytealg.CompareString -/
def C162 : CC :=
 (.seq (.ops [⟨some 4, none, .mv (.const (.int .i64 0))⟩])
 (.seq (.ops [⟨some 5, none, .mv (.tmp 0)⟩,
   ⟨some 6, none, .mv (.tmp 1)⟩,
   ⟨some 7, none, .call (.func 169) [(.tmp 5), (.tmp 6)]⟩,
   ⟨some 4, none, .mv (.tmp 7)⟩])
 .ret))
theorem C162_ok : Try.f162.body.bind (comp Try.prog) = some C162 := by kernel_rfl
theorem C162_res : compRs Try.prog Try.f162.results.toList = some [.tmp 4] := by kernel_rfl
theorem C162_nm : (Try.f162.name == "runtime.NumGoroutine") = false := by kernel_rfl
theorem C162_fn {a0 a1 : AV} {H : Heap} {Q : AV → Heap → Prop} (h : vc Try.prog C162 (vcEnd [.tmp 4] Q) H [a0, a1, .any, .any, .any, .any, .any, .any]) : Runs Try.prog 162 [a0, a1] H Q :=
  @fn_go Try.prog mixed 162 Try.f162 C162 [.tmp 4] Try.func162 C162_ok C162_res C162_nm 8 Try.ntmps162 [a0, a1] [a0, a1, .any, .any, .any, .any, .any, .any] H Q h 6 (by kernel_rfl) (by kernel_rfl)

/-- strings.Compare -/
def C144 : CC :=
 (.seq (.ops [⟨some 4, none, .mv (.const (.int .i64 0))⟩])
 (.seq (.ops [⟨some 5, none, .mv (.tmp 0)⟩,
   ⟨some 6, none, .mv (.tmp 1)⟩,
   ⟨some 7, none, .call (.func 162) [(.tmp 5), (.tmp 6)]⟩,
   ⟨some 4, none, .mv (.tmp 7)⟩])
 .ret))
theorem C144_ok : Try.f144.body.bind (comp Try.prog) = some C144 := by kernel_rfl
theorem C144_res : compRs Try.prog Try.f144.results.toList = some [.tmp 4] := by kernel_rfl
theorem C144_nm : (Try.f144.name == "runtime.NumGoroutine") = false := by kernel_rfl
theorem C144_fn {a0 a1 : AV} {H : Heap} {Q : AV → Heap → Prop} (h : vc Try.prog C144 (vcEnd [.tmp 4] Q) H [a0, a1, .any, .any, .any, .any, .any, .any]) : Runs Try.prog 144 [a0, a1] H Q :=
  @fn_go Try.prog mixed 144 Try.f144 C144 [.tmp 4] Try.func144 C144_ok C144_res C144_nm 8 Try.ntmps144 [a0, a1] [a0, a1, .any, .any, .any, .any, .any, .any] H Q h 6 (by kernel_rfl) (by kernel_rfl)

/-- impl.compareClaims -/
def C132 : CC :=
 (.seq (.ops [⟨some 2, none, .box (.tmp 0)⟩,
   ⟨some 3, none, .box (.tmp 1)⟩,
   ⟨some 4, none, .mv (.const (.int .i64 0))⟩])
 (.seq (.ops [⟨some 5, none, .fa 0 (.tmp 2)⟩,
   ⟨some 6, none, .load false 1 (.tmp 5)⟩,
   ⟨some 7, none, .fa 0 (.tmp 3)⟩,
   ⟨some 8, none, .load false 1 (.tmp 7)⟩,
   ⟨some 9, none, .call (.func 144) [(.tmp 6), (.tmp 8)]⟩,
   ⟨some 4, none, .mv (.tmp 9)⟩])
 .ret))
theorem C132_ok : Try.f132.body.bind (comp Try.prog) = some C132 := by kernel_rfl
theorem C132_res : compRs Try.prog Try.f132.results.toList = some [.tmp 4] := by kernel_rfl
theorem C132_nm : (Try.f132.name == "runtime.NumGoroutine") = false := by kernel_rfl
theorem C132_fn {a0 a1 : AV} {H : Heap} {Q : AV → Heap → Prop} (h : vc Try.prog C132 (vcEnd [.tmp 4] Q) H [a0, a1, .any, .any, .any, .any, .any, .any, .any, .any]) : Runs Try.prog 132 [a0, a1] H Q :=
  @fn_go Try.prog mixed 132 Try.f132 C132 [.tmp 4] Try.func132 C132_ok C132_res C132_nm 10 Try.ntmps132 [a0, a1] [a0, a1, .any, .any, .any, .any, .any, .any, .any, .any] H Q h 8 (by kernel_rfl) (by kernel_rfl)

/-- impl.AreClaims -/
def C67 : CC :=
 (.seq (.ops [⟨some 2, none, .mv (.const (.bool false))⟩])
 (.seq (.ops [⟨some 3, none, .mv (.tmp 0)⟩,
   ⟨some 4, none, .len false (.tmp 3)⟩,
   ⟨some 5, none, .bin .leq 0 (.tmp 4) (.const (.int .i64 8))⟩,
   ⟨some 6, none, .mv (.tmp 5)⟩,
   ⟨some 7, some (6, true), .mv (.tmp 0)⟩,
   ⟨some 8, some (6, true), .call (.func 129) [(.tmp 7), (.func 130)]⟩,
   ⟨some 9, none, .pick (.tmp 6) (.tmp 8) (.const (.bool false))⟩,
   ⟨some 10, none, .mv (.tmp 9)⟩,
   ⟨some 11, some (10, true), .mv (.tmp 0)⟩,
   ⟨some 12, some (10, true), .call (.func 131) [(.tmp 11), (.func 132)]⟩,
   ⟨some 13, none, .pick (.tmp 10) (.tmp 12) (.const (.bool false))⟩,
   ⟨some 2, none, .mv (.tmp 13)⟩])
 .ret))
theorem C67_ok : Try.f67.body.bind (comp Try.prog) = some C67 := by kernel_rfl
theorem C67_res : compRs Try.prog Try.f67.results.toList = some [.tmp 2] := by kernel_rfl
theorem C67_nm : (Try.f67.name == "runtime.NumGoroutine") = false := by kernel_rfl
theorem C67_fn {a0 : AV} {H : Heap} {Q : AV → Heap → Prop} (h : vc Try.prog C67 (vcEnd [.tmp 2] Q) H [a0, .any, .any, .any, .any, .any, .any, .any, .any, .any, .any, .any, .any, .any]) : Runs Try.prog 67 [a0] H Q :=
  @fn_go Try.prog mixed 67 Try.f67 C67 [.tmp 2] Try.func67 C67_ok C67_res C67_nm 14 Try.ntmps67 [a0] [a0, .any, .any, .any, .any, .any, .any, .any, .any, .any, .any, .any, .any, .any] H Q h 13 (by kernel_rfl) (by kernel_rfl)

/-- (impl.Claim).merit -/
def C78 : CC :=
 (.seq (.ops [⟨some 1, none, .box (.tmp 0)⟩,
   ⟨some 2, none, .mv (.const (.int .i64 0))⟩])
 (.seq (.ops [⟨some 3, none, .fa 1 (.tmp 1)⟩,
   ⟨some 4, none, .load false 1 (.tmp 3)⟩,
   ⟨some 5, none, .fa 2 (.tmp 1)⟩,
   ⟨some 6, none, .load false 1 (.tmp 5)⟩,
   ⟨some 7, none, .bin .mul 0 (.tmp 4) (.tmp 6)⟩,
   ⟨some 8, none, .fa 3 (.tmp 1)⟩,
   ⟨some 9, none, .load false 1 (.tmp 8)⟩,
   ⟨some 10, none, .bin .mul 0 (.tmp 7) (.tmp 9)⟩,
   ⟨some 2, none, .mv (.tmp 10)⟩])
 .ret))
theorem C78_ok : Try.f78.body.bind (comp Try.prog) = some C78 := by kernel_rfl
theorem C78_res : compRs Try.prog Try.f78.results.toList = some [.tmp 2] := by kernel_rfl
theorem C78_nm : (Try.f78.name == "runtime.NumGoroutine") = false := by kernel_rfl
theorem C78_fn {a0 : AV} {H : Heap} {Q : AV → Heap → Prop} (h : vc Try.prog C78 (vcEnd [.tmp 2] Q) H [a0, .any, .any, .any, .any, .any, .any, .any, .any, .any, .any]) : Runs Try.prog 78 [a0] H Q :=
  @fn_go Try.prog mixed 78 Try.f78 C78 [.tmp 2] Try.func78 C78_ok C78_res C78_nm 11 Try.ntmps78 [a0] [a0, .any, .any, .any, .any, .any, .any, .any, .any, .any, .any] H Q h 10 (by kernel_rfl) (by kernel_rfl)

/-- impl.BestSalvor -/
def C18 : CC :=
 (.seq (.ops [⟨some 2, none, .mv (.const (.string ⟨#[]⟩))⟩,
   ⟨some 3, none, .mv (.const (.int .i64 0))⟩])
 (.seq (.block 0 (.seq (.ops [⟨some 8, none, .mv (.tmp 0)⟩,
     ⟨some 9, none, .call (.func 67) [(.tmp 8)]⟩,
     ⟨some 10, none, .not (.tmp 9)⟩,
     ⟨some 7, none, .mv (.tmp 10)⟩])
   (.cond (.tmp 7) (.seq (.ops [⟨some 2, none, .mv (.const (.string ⟨#[]⟩))⟩,
      ⟨some 3, none, .mv (.const (.int .i64 1))⟩])
    .ret)
   (.seq (.ops [⟨some 12, none, .mv (.tmp 0)⟩,
      ⟨some 13, none, .len false (.tmp 12)⟩,
      ⟨some 14, none, .bin .eql 0 (.tmp 13) (.const (.int .i64 0))⟩,
      ⟨some 11, none, .mv (.tmp 14)⟩])
    (.cond (.tmp 11) (.seq (.ops [⟨some 2, none, .mv (.const (.string ⟨#[]⟩))⟩,
       ⟨some 3, none, .mv (.const (.int .i64 4))⟩])
     .ret)
    .skip)))))
 (.seq (.ops [⟨some 15, none, .mv (.tmp 0)⟩,
   ⟨some 16, none, .ia 5 (.tmp 15) (.const (.int .i64 0))⟩,
   ⟨some 17, none, .load true 5 (.tmp 16)⟩,
   ⟨some 4, none, .alloc [.string ⟨#[]⟩, .int .i64 0, .int .i64 0, .int .i64 0, .int .i64 0]⟩,
   ⟨none, none, .store 5 (.tmp 4) (.tmp 17)⟩])
 (.seq (.seq (.ops [⟨some 18, none, .mv (.tmp 0)⟩,
    ⟨some 19, none, .len false (.tmp 18)⟩,
    ⟨some 20, none, .mv (.const (.int .i64 0))⟩])
  (.block 1 (.loop (.seq (.ops [⟨some 21, none, .bin .lss 0 (.tmp 20) (.tmp 19)⟩])
    (.seq (.cond (.tmp 21) .skip
     (.exit 1))
    (.seq (.block 2 (.seq (.ops [⟨some 22, none, .ia 5 (.tmp 18) (.tmp 20)⟩,
        ⟨some 23, none, .load true 5 (.tmp 22)⟩,
        ⟨some 6, none, .alloc [.string ⟨#[]⟩, .int .i64 0, .int .i64 0, .int .i64 0, .int .i64 0]⟩,
        ⟨none, none, .store 5 (.tmp 6) (.tmp 23)⟩])
      (.seq (.draw 5 [⟨some 24, none, .load true 5 (.tmp 6)⟩,
        ⟨some 25, none, .call (.func 78) [(.tmp 24)]⟩,
        ⟨some 26, none, .load true 5 (.tmp 4)⟩,
        ⟨some 27, none, .call (.func 78) [(.tmp 26)]⟩,
        ⟨some 28, none, .bin .gtr 0 (.tmp 25) (.tmp 27)⟩])
      (.cond (.tmp 28) (.ops [⟨some 29, none, .load true 5 (.tmp 6)⟩,
        ⟨none, none, .store 5 (.tmp 4) (.tmp 29)⟩])
      .skip))))
    (.ops [⟨some 30, none, .bin .add 0 (.tmp 20) (.const (.int .i64 1))⟩,
     ⟨some 20, none, .mv (.tmp 30)⟩])))))))
 (.seq (.ops [⟨some 31, none, .fa 0 (.tmp 4)⟩,
   ⟨some 32, none, .load false 1 (.tmp 31)⟩,
   ⟨some 2, none, .mv (.tmp 32)⟩,
   ⟨some 3, none, .mv (.const (.int .i64 0))⟩])
 .ret)))))
theorem C18_ok : Try.f18.body.bind (comp Try.prog) = some C18 := by kernel_rfl
theorem C18_res : compRs Try.prog Try.f18.results.toList = some [.tmp 2, .tmp 3] := by kernel_rfl
theorem C18_nm : (Try.f18.name == "runtime.NumGoroutine") = false := by kernel_rfl
theorem C18_fn {a0 : AV} {H : Heap} {Q : AV → Heap → Prop} (h : vc Try.prog C18 (vcEnd [.tmp 2, .tmp 3] Q) H [a0, .any, .any, .any, .any, .any, .any, .any, .any, .any, .any, .any, .any, .any, .any, .any, .any, .any, .any, .any, .any, .any, .any, .any, .any, .any, .any, .any, .any, .any, .any, .any, .any]) : Runs Try.prog 18 [a0] H Q :=
  @fn_go Try.prog mixed 18 Try.f18 C18 [.tmp 2, .tmp 3] Try.func18 C18_ok C18_res C18_nm 33 Try.ntmps18 [a0] [a0, .any, .any, .any, .any, .any, .any, .any, .any, .any, .any, .any, .any, .any, .any, .any, .any, .any, .any, .any, .any, .any, .any, .any, .any, .any, .any, .any, .any, .any, .any, .any, .any] H Q h 32 (by kernel_rfl) (by kernel_rfl)

/-- laws.eqClaim -/
def C79 : CC :=
 (.seq (.ops [⟨some 2, none, .box (.tmp 0)⟩,
   ⟨some 3, none, .box (.tmp 1)⟩,
   ⟨some 4, none, .mv (.const (.bool false))⟩])
 (.seq (.seq (.ops [⟨some 5, none, .fa 0 (.tmp 2)⟩,
    ⟨some 6, none, .load false 1 (.tmp 5)⟩,
    ⟨some 7, none, .fa 0 (.tmp 3)⟩,
    ⟨some 8, none, .load false 1 (.tmp 7)⟩,
    ⟨some 9, none, .bin .neq 0 (.tmp 6) (.tmp 8)⟩])
  (.cond (.tmp 9) (.seq (.ops [⟨some 4, none, .mv (.const (.bool false))⟩])
   .ret)
  .skip))
 (.seq (.seq (.ops [⟨some 10, none, .fa 1 (.tmp 2)⟩,
    ⟨some 11, none, .load false 1 (.tmp 10)⟩,
    ⟨some 12, none, .fa 1 (.tmp 3)⟩,
    ⟨some 13, none, .load false 1 (.tmp 12)⟩,
    ⟨some 14, none, .bin .neq 0 (.tmp 11) (.tmp 13)⟩])
  (.cond (.tmp 14) (.seq (.ops [⟨some 4, none, .mv (.const (.bool false))⟩])
   .ret)
  .skip))
 (.seq (.seq (.ops [⟨some 15, none, .fa 2 (.tmp 2)⟩,
    ⟨some 16, none, .load false 1 (.tmp 15)⟩,
    ⟨some 17, none, .fa 2 (.tmp 3)⟩,
    ⟨some 18, none, .load false 1 (.tmp 17)⟩,
    ⟨some 19, none, .bin .neq 0 (.tmp 16) (.tmp 18)⟩])
  (.cond (.tmp 19) (.seq (.ops [⟨some 4, none, .mv (.const (.bool false))⟩])
   .ret)
  .skip))
 (.seq (.seq (.ops [⟨some 20, none, .fa 3 (.tmp 2)⟩,
    ⟨some 21, none, .load false 1 (.tmp 20)⟩,
    ⟨some 22, none, .fa 3 (.tmp 3)⟩,
    ⟨some 23, none, .load false 1 (.tmp 22)⟩,
    ⟨some 24, none, .bin .neq 0 (.tmp 21) (.tmp 23)⟩])
  (.cond (.tmp 24) (.seq (.ops [⟨some 4, none, .mv (.const (.bool false))⟩])
   .ret)
  .skip))
 (.seq (.seq (.ops [⟨some 25, none, .fa 4 (.tmp 2)⟩,
    ⟨some 26, none, .load false 1 (.tmp 25)⟩,
    ⟨some 27, none, .fa 4 (.tmp 3)⟩,
    ⟨some 28, none, .load false 1 (.tmp 27)⟩,
    ⟨some 29, none, .bin .neq 0 (.tmp 26) (.tmp 28)⟩])
  (.cond (.tmp 29) (.seq (.ops [⟨some 4, none, .mv (.const (.bool false))⟩])
   .ret)
  .skip))
 (.seq (.ops [⟨some 4, none, .mv (.const (.bool true))⟩])
 .ret)))))))
theorem C79_ok : Try.f79.body.bind (comp Try.prog) = some C79 := by kernel_rfl
theorem C79_res : compRs Try.prog Try.f79.results.toList = some [.tmp 4] := by kernel_rfl
theorem C79_nm : (Try.f79.name == "runtime.NumGoroutine") = false := by kernel_rfl
theorem C79_fn {a0 a1 : AV} {H : Heap} {Q : AV → Heap → Prop} (h : vc Try.prog C79 (vcEnd [.tmp 4] Q) H [a0, a1, .any, .any, .any, .any, .any, .any, .any, .any, .any, .any, .any, .any, .any, .any, .any, .any, .any, .any, .any, .any, .any, .any, .any, .any, .any, .any, .any, .any]) : Runs Try.prog 79 [a0, a1] H Q :=
  @fn_go Try.prog mixed 79 Try.f79 C79 [.tmp 4] Try.func79 C79_ok C79_res C79_nm 30 Try.ntmps79 [a0, a1] [a0, a1, .any, .any, .any, .any, .any, .any, .any, .any, .any, .any, .any, .any, .any, .any, .any, .any, .any, .any, .any, .any, .any, .any, .any, .any, .any, .any, .any, .any] H Q h 28 (by kernel_rfl) (by kernel_rfl)

/-- laws.eqClaimS -/
def C19 : CC :=
 (.seq (.ops [⟨some 4, none, .mv (.const (.bool false))⟩])
 (.seq (.seq (.ops [⟨some 6, none, .mv (.tmp 0)⟩,
    ⟨some 7, none, .len false (.tmp 6)⟩,
    ⟨some 8, none, .mv (.tmp 1)⟩,
    ⟨some 9, none, .len false (.tmp 8)⟩,
    ⟨some 10, none, .bin .neq 0 (.tmp 7) (.tmp 9)⟩])
  (.cond (.tmp 10) (.seq (.ops [⟨some 4, none, .mv (.const (.bool false))⟩])
   .ret)
  .skip))
 (.seq (.seq (.ops [⟨some 5, none, .mv (.const (.int .i64 0))⟩])
  (.block 0 (.loop (.seq (.seq (.ops [⟨some 11, none, .mv (.tmp 5)⟩,
       ⟨some 12, none, .mv (.tmp 0)⟩,
       ⟨some 13, none, .len false (.tmp 12)⟩,
       ⟨some 14, none, .bin .lss 0 (.tmp 11) (.tmp 13)⟩])
     (.cond (.tmp 14) .skip
     (.exit 0)))
    (.seq (.block 1 (.seq (.draw 10 [⟨some 17, none, .mv (.tmp 0)⟩,
        ⟨some 18, none, .mv (.tmp 5)⟩,
        ⟨some 19, none, .ia 5 (.tmp 17) (.tmp 18)⟩,
        ⟨some 20, none, .load true 5 (.tmp 19)⟩,
        ⟨some 21, none, .mv (.tmp 1)⟩,
        ⟨some 22, none, .mv (.tmp 5)⟩,
        ⟨some 23, none, .ia 5 (.tmp 21) (.tmp 22)⟩,
        ⟨some 24, none, .load true 5 (.tmp 23)⟩,
        ⟨some 25, none, .call (.func 79) [(.tmp 20), (.tmp 24)]⟩,
        ⟨some 26, none, .not (.tmp 25)⟩])
      (.cond (.tmp 26) (.seq (.ops [⟨some 4, none, .mv (.const (.bool false))⟩])
       .ret)
      .skip)))
    (.ops [⟨some 15, none, .mv (.tmp 5)⟩,
     ⟨some 16, none, .bin .add 0 (.tmp 15) (.const (.int .i64 1))⟩,
     ⟨some 5, none, .mv (.tmp 16)⟩]))))))
 (.seq (.ops [⟨some 4, none, .mv (.const (.bool true))⟩])
 .ret))))
theorem C19_ok : Try.f19.body.bind (comp Try.prog) = some C19 := by kernel_rfl
theorem C19_res : compRs Try.prog Try.f19.results.toList = some [.tmp 4] := by kernel_rfl
theorem C19_nm : (Try.f19.name == "runtime.NumGoroutine") = false := by kernel_rfl
theorem C19_fn {a0 a1 : AV} {H : Heap} {Q : AV → Heap → Prop} (h : vc Try.prog C19 (vcEnd [.tmp 4] Q) H [a0, a1, .any, .any, .any, .any, .any, .any, .any, .any, .any, .any, .any, .any, .any, .any, .any, .any, .any, .any, .any, .any, .any, .any, .any, .any, .any]) : Runs Try.prog 19 [a0, a1] H Q :=
  @fn_go Try.prog mixed 19 Try.f19 C19 [.tmp 4] Try.func19 C19_ok C19_res C19_nm 27 Try.ntmps19 [a0, a1] [a0, a1, .any, .any, .any, .any, .any, .any, .any, .any, .any, .any, .any, .any, .any, .any, .any, .any, .any, .any, .any, .any, .any, .any, .any, .any, .any] H Q h 25 (by kernel_rfl) (by kernel_rfl)

/-- laws.FnExactBestSalvor -/
def C3 : CC :=
 (.seq (.ops [⟨some 2, none, .mv (.const (.bool false))⟩])
 (.seq (.ops [⟨some 3, none, .mv (.const (.int .i64 1048576))⟩])
 (.seq (.ops [⟨some 9, none, .mv (.tmp 0)⟩,
   ⟨some 10, none, .mv (.tmp 3)⟩,
   ⟨some 11, none, .call (.func 15) [(.tmp 9), (.tmp 10)]⟩,
   ⟨some 3, none, .mv (.tmp 11)⟩])
 (.seq (.seq (.ops [⟨some 12, none, .mv (.tmp 3)⟩,
    ⟨some 13, none, .bin .lss 0 (.tmp 12) (.const (.int .i64 0))⟩])
  (.cond (.tmp 13) (.seq (.ops [⟨some 2, none, .mv (.const (.bool true))⟩])
   .ret)
  .skip))
 (.seq (.ops [⟨some 15, none, .mv (.tmp 0)⟩,
   ⟨some 16, none, .call (.func 17) [(.tmp 15)]⟩,
   ⟨some 17, none, .call (.func 16) [(.tmp 16)]⟩,
   ⟨some 14, none, .mv (.tmp 17)⟩,
   ⟨some 18, none, .ext (.tmp 14) 0⟩,
   ⟨some 19, none, .ext (.tmp 14) 1⟩,
   ⟨some 4, none, .mv (.tmp 18)⟩,
   ⟨some 5, none, .mv (.tmp 19)⟩])
 (.seq (.ops [⟨some 20, none, .mv (.tmp 0)⟩,
   ⟨some 21, none, .call (.func 17) [(.tmp 20)]⟩,
   ⟨some 6, none, .mv (.tmp 21)⟩])
 (.seq (.ops [⟨some 23, none, .mv (.tmp 6)⟩,
   ⟨some 24, none, .call (.func 18) [(.tmp 23)]⟩,
   ⟨some 22, none, .mv (.tmp 24)⟩,
   ⟨some 25, none, .ext (.tmp 22) 0⟩,
   ⟨some 26, none, .ext (.tmp 22) 1⟩,
   ⟨some 7, none, .mv (.tmp 25)⟩,
   ⟨some 8, none, .mv (.tmp 26)⟩])
 (.seq (.seq (.ops [⟨some 27, none, .mv (.tmp 7)⟩,
    ⟨some 28, none, .mv (.tmp 4)⟩,
    ⟨some 29, none, .bin .neq 0 (.tmp 27) (.tmp 28)⟩,
    ⟨some 30, none, .mv (.tmp 29)⟩,
    ⟨some 31, some (30, false), .mv (.tmp 8)⟩,
    ⟨some 32, some (30, false), .mv (.tmp 5)⟩,
    ⟨some 33, some (30, false), .bin .neq 0 (.tmp 31) (.tmp 32)⟩,
    ⟨some 34, none, .pick (.tmp 30) (.const (.bool true)) (.tmp 33)⟩])
  (.cond (.tmp 34) (.seq (.ops [⟨some 2, none, .mv (.const (.bool false))⟩])
   .ret)
  .skip))
 (.seq (.seq (.ops [⟨some 35, none, .mv (.tmp 6)⟩,
    ⟨some 36, none, .mv (.tmp 0)⟩,
    ⟨some 37, none, .call (.func 17) [(.tmp 36)]⟩,
    ⟨some 38, none, .call (.func 19) [(.tmp 35), (.tmp 37)]⟩,
    ⟨some 39, none, .not (.tmp 38)⟩])
  (.cond (.tmp 39) (.seq (.ops [⟨some 2, none, .mv (.const (.bool false))⟩])
   .ret)
  .skip))
 (.seq (.ops [⟨some 2, none, .mv (.const (.bool true))⟩])
 .ret))))))))))
theorem C3_ok : Try.f3.body.bind (comp Try.prog) = some C3 := by kernel_rfl
theorem C3_res : compRs Try.prog Try.f3.results.toList = some [.tmp 2] := by kernel_rfl
theorem C3_nm : (Try.f3.name == "runtime.NumGoroutine") = false := by kernel_rfl
theorem C3_fn {a0 : AV} {H : Heap} {Q : AV → Heap → Prop} (h : vc Try.prog C3 (vcEnd [.tmp 2] Q) H [a0, .any, .any, .any, .any, .any, .any, .any, .any, .any, .any, .any, .any, .any, .any, .any, .any, .any, .any, .any, .any, .any, .any, .any, .any, .any, .any, .any, .any, .any, .any, .any, .any, .any, .any, .any, .any, .any, .any, .any]) : Runs Try.prog 3 [a0] H Q :=
  @fn_go Try.prog mixed 3 Try.f3 C3 [.tmp 2] Try.func3 C3_ok C3_res C3_nm 40 Try.ntmps3 [a0] [a0, .any, .any, .any, .any, .any, .any, .any, .any, .any, .any, .any, .any, .any, .any, .any, .any, .any, .any, .any, .any, .any, .any, .any, .any, .any, .any, .any, .any, .any, .any, .any, .any, .any, .any, .any, .any, .any, .any, .any] H Q h 39 (by kernel_rfl) (by kernel_rfl)

/-- laws.szSecurity -/
def C80 : CC :=
 (.seq (.ops [⟨some 2, none, .box (.tmp 0)⟩,
   ⟨some 4, none, .mv (.const (.int .i64 0))⟩])
 (.seq (.ops [⟨some 5, none, .mv (.tmp 1)⟩,
   ⟨some 6, none, .fa 0 (.tmp 2)⟩,
   ⟨some 7, none, .load false 1 (.tmp 6)⟩,
   ⟨some 8, none, .len true (.tmp 7)⟩,
   ⟨some 9, none, .bin .sub 0 (.tmp 5) (.tmp 8)⟩,
   ⟨some 1, none, .mv (.tmp 9)⟩])
 (.seq (.seq (.ops [⟨some 10, none, .mv (.tmp 1)⟩,
    ⟨some 11, none, .bin .lss 0 (.tmp 10) (.const (.int .i64 0))⟩])
  (.cond (.tmp 11) (.seq (.ops [⟨some 4, none, .mv (.const (.int .i64 (-1)))⟩])
   .ret)
  .skip))
 (.seq (.ops [⟨some 12, none, .mv (.tmp 1)⟩,
   ⟨some 4, none, .mv (.tmp 12)⟩])
 .ret))))
theorem C80_ok : Try.f80.body.bind (comp Try.prog) = some C80 := by kernel_rfl
theorem C80_res : compRs Try.prog Try.f80.results.toList = some [.tmp 4] := by kernel_rfl
theorem C80_nm : (Try.f80.name == "runtime.NumGoroutine") = false := by kernel_rfl
theorem C80_fn {a0 a1 : AV} {H : Heap} {Q : AV → Heap → Prop} (h : vc Try.prog C80 (vcEnd [.tmp 4] Q) H [a0, a1, .any, .any, .any, .any, .any, .any, .any, .any, .any, .any, .any]) : Runs Try.prog 80 [a0, a1] H Q :=
  @fn_go Try.prog mixed 80 Try.f80 C80 [.tmp 4] Try.func80 C80_ok C80_res C80_nm 13 Try.ntmps80 [a0, a1] [a0, a1, .any, .any, .any, .any, .any, .any, .any, .any, .any, .any, .any] H Q h 11 (by kernel_rfl) (by kernel_rfl)

end Go.Proofs.Ytbgnlnlgjmipfaa
