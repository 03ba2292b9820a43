/- The code of the functions, in the form of our laws; each is the program's own, by the kernel. Written by a program of ours. -/
import Derived.Test.YtpaflfaokgapgaaB0
import Derived.KernelRfl
namespace Go.Proofs.Ytpaflfaokgapgaa
open Go.Abs

/-- laws.szNotice -/
def C70 : CC :=
 (.seq (.ops [⟨some 2, none, .box (.tmp 0)⟩,
   ⟨some 4, none, .mv (.const (.int .i64 0))⟩])
 (.seq (.ops [⟨some 5, none, .mv (.tmp 1)⟩,
   ⟨some 6, none, .fa 0 (.tmp 2)⟩,
   ⟨some 7, none, .load false 1 (.tmp 6)⟩,
   ⟨some 8, none, .len true (.tmp 7)⟩,
   ⟨some 9, none, .bin .sub 0 (.tmp 5) (.tmp 8)⟩,
   ⟨some 1, none, .mv (.tmp 9)⟩])
 (.seq (.seq (.ops [⟨some 10, none, .mv (.tmp 1)⟩,
    ⟨some 11, none, .bin .lss 0 (.tmp 10) (.const (.int .i64 0))⟩])
  (.cond (.tmp 11) (.seq (.ops [⟨some 4, none, .mv (.const (.int .i64 (-1)))⟩])
   .ret)
  .skip))
 (.seq (.ops [⟨some 12, none, .mv (.tmp 1)⟩,
   ⟨some 4, none, .mv (.tmp 12)⟩])
 .ret))))
theorem C70_ok : Try.f70.body.bind (comp Try.prog) = some C70 := by kernel_rfl
theorem C70_res : compRs Try.prog Try.f70.results.toList = some [.tmp 4] := by kernel_rfl
theorem C70_nm : (Try.f70.name == "runtime.NumGoroutine") = false := by kernel_rfl
theorem C70_fn {a0 a1 : AV} {H : Heap} {Q : AV → Heap → Prop} (h : vc Try.prog C70 (vcEnd [.tmp 4] Q) H [a0, a1, .any, .any, .any, .any, .any, .any, .any, .any, .any, .any, .any]) : Runs Try.prog 70 [a0, a1] H Q :=
  @fn_go Try.prog mixed 70 Try.f70 C70 [.tmp 4] Try.func70 C70_ok C70_res C70_nm 13 Try.ntmps70 [a0, a1] [a0, a1, .any, .any, .any, .any, .any, .any, .any, .any, .any, .any, .any] H Q h 11 (by kernel_rfl) (by kernel_rfl)

/-- laws.szNoticeS -/
def C15 : CC :=
 (.seq (.ops [⟨some 4, none, .mv (.const (.int .i64 0))⟩])
 (.seq (.ops [⟨some 6, none, .mv (.tmp 1)⟩,
   ⟨some 7, none, .mv (.tmp 0)⟩,
   ⟨some 8, none, .len false (.tmp 7)⟩,
   ⟨some 9, none, .bin .sub 0 (.tmp 6) (.tmp 8)⟩,
   ⟨some 1, none, .mv (.tmp 9)⟩])
 (.seq (.seq (.ops [⟨some 10, none, .mv (.tmp 1)⟩,
    ⟨some 11, none, .bin .lss 0 (.tmp 10) (.const (.int .i64 0))⟩])
  (.cond (.tmp 11) (.seq (.ops [⟨some 4, none, .mv (.const (.int .i64 (-1)))⟩])
   .ret)
  .skip))
 (.seq (.seq (.ops [⟨some 5, none, .mv (.const (.int .i64 0))⟩])
  (.block 0 (.loop (.seq (.seq (.ops [⟨some 12, none, .mv (.tmp 5)⟩,
       ⟨some 13, none, .mv (.tmp 0)⟩,
       ⟨some 14, none, .len false (.tmp 13)⟩,
       ⟨some 15, none, .bin .lss 0 (.tmp 12) (.tmp 14)⟩])
     (.cond (.tmp 15) .skip
     (.exit 0)))
    (.seq (.block 1 (.seq (.ops [⟨some 18, none, .mv (.tmp 0)⟩,
        ⟨some 19, none, .mv (.tmp 5)⟩,
        ⟨some 20, none, .ia 4 (.tmp 18) (.tmp 19)⟩,
        ⟨some 21, none, .load true 4 (.tmp 20)⟩,
        ⟨some 22, none, .mv (.tmp 1)⟩,
        ⟨some 23, none, .call (.func 70) [(.tmp 21), (.tmp 22)]⟩,
        ⟨some 1, none, .mv (.tmp 23)⟩])
      (.seq (.ops [⟨some 24, none, .mv (.tmp 1)⟩,
        ⟨some 25, none, .bin .lss 0 (.tmp 24) (.const (.int .i64 0))⟩])
      (.cond (.tmp 25) (.seq (.ops [⟨some 4, none, .mv (.const (.int .i64 (-1)))⟩])
       .ret)
      .skip))))
    (.ops [⟨some 16, none, .mv (.tmp 5)⟩,
     ⟨some 17, none, .bin .add 0 (.tmp 16) (.const (.int .i64 1))⟩,
     ⟨some 5, none, .mv (.tmp 17)⟩]))))))
 (.seq (.ops [⟨some 26, none, .mv (.tmp 1)⟩,
   ⟨some 4, none, .mv (.tmp 26)⟩])
 .ret)))))
theorem C15_ok : Try.f15.body.bind (comp Try.prog) = some C15 := by kernel_rfl
theorem C15_res : compRs Try.prog Try.f15.results.toList = some [.tmp 4] := by kernel_rfl
theorem C15_nm : (Try.f15.name == "runtime.NumGoroutine") = false := by kernel_rfl
theorem C15_fn {a0 a1 : AV} {H : Heap} {Q : AV → Heap → Prop} (h : vc Try.prog C15 (vcEnd [.tmp 4] Q) H [a0, a1, .any, .any, .any, .any, .any, .any, .any, .any, .any, .any, .any, .any, .any, .any, .any, .any, .any, .any, .any, .any, .any, .any, .any, .any, .any]) : Runs Try.prog 15 [a0, a1] H Q :=
  @fn_go Try.prog mixed 15 Try.f15 C15 [.tmp 4] Try.func15 C15_ok C15_res C15_nm 27 Try.ntmps15 [a0, a1] [a0, a1, .any, .any, .any, .any, .any, .any, .any, .any, .any, .any, .any, .any, .any, .any, .any, .any, .any, .any, .any, .any, .any, .any, .any, .any, .any] H Q h 25 (by kernel_rfl) (by kernel_rfl)

/-- spec.l01In -/
def C73 : CC :=
 (.seq (.ops [⟨some 6, none, .mv (.const (.bool false))⟩])
 (.seq (.ops [⟨some 7, none, .mv (.tmp 0)⟩,
   ⟨some 8, none, .mv (.tmp 1)⟩,
   ⟨some 9, none, .bin .geq 0 (.tmp 7) (.tmp 8)⟩,
   ⟨some 10, none, .mv (.tmp 9)⟩,
   ⟨some 11, some (10, true), .mv (.tmp 0)⟩,
   ⟨some 12, some (10, true), .mv (.tmp 2)⟩,
   ⟨some 13, some (10, true), .bin .leq 0 (.tmp 11) (.tmp 12)⟩,
   ⟨some 14, none, .pick (.tmp 10) (.tmp 13) (.const (.bool false))⟩,
   ⟨some 6, none, .mv (.tmp 14)⟩])
 .ret))
theorem C73_ok : Try.f73.body.bind (comp Try.prog) = some C73 := by kernel_rfl
theorem C73_res : compRs Try.prog Try.f73.results.toList = some [.tmp 6] := by kernel_rfl
theorem C73_nm : (Try.f73.name == "runtime.NumGoroutine") = false := by kernel_rfl
theorem C73_fn {a0 a1 a2 : AV} {H : Heap} {Q : AV → Heap → Prop} (h : vc Try.prog C73 (vcEnd [.tmp 6] Q) H [a0, a1, a2, .any, .any, .any, .any, .any, .any, .any, .any, .any, .any, .any, .any]) : Runs Try.prog 73 [a0, a1, a2] H Q :=
  @fn_go Try.prog mixed 73 Try.f73 C73 [.tmp 6] Try.func73 C73_ok C73_res C73_nm 15 Try.ntmps73 [a0, a1, a2] [a0, a1, a2, .any, .any, .any, .any, .any, .any, .any, .any, .any, .any, .any, .any] H Q h 12 (by kernel_rfl) (by kernel_rfl)

/-- spec.IsPartyCode -/
def C71 : CC :=
 (.seq (.ops [⟨some 2, none, .mv (.const (.bool false))⟩])
 (.seq (.seq (.ops [⟨some 3, none, .mv (.const (.int .i64 0))⟩])
  (.block 0 (.loop (.seq (.seq (.ops [⟨some 4, none, .mv (.tmp 3)⟩,
       ⟨some 5, none, .mv (.tmp 0)⟩,
       ⟨some 6, none, .len true (.tmp 5)⟩,
       ⟨some 7, none, .bin .lss 0 (.tmp 4) (.tmp 6)⟩])
     (.cond (.tmp 7) .skip
     (.exit 0)))
    (.seq (.block 1 (.seq (.ops [⟨some 10, none, .mv (.tmp 0)⟩,
        ⟨some 11, none, .mv (.tmp 3)⟩,
        ⟨some 12, none, .idx (.tmp 10) (.tmp 11)⟩,
        ⟨some 13, none, .bin .lss 0 (.tmp 12) (.const (.int .u8 97))⟩,
        ⟨some 14, none, .mv (.tmp 13)⟩,
        ⟨some 15, some (14, false), .mv (.tmp 0)⟩,
        ⟨some 16, some (14, false), .mv (.tmp 3)⟩,
        ⟨some 17, some (14, false), .idx (.tmp 15) (.tmp 16)⟩,
        ⟨some 18, some (14, false), .bin .gtr 0 (.tmp 17) (.const (.int .u8 122))⟩,
        ⟨some 19, none, .pick (.tmp 14) (.const (.bool true)) (.tmp 18)⟩])
      (.cond (.tmp 19) (.seq (.ops [⟨some 2, none, .mv (.const (.bool false))⟩])
       .ret)
      .skip)))
    (.ops [⟨some 8, none, .mv (.tmp 3)⟩,
     ⟨some 9, none, .bin .add 0 (.tmp 8) (.const (.int .i64 1))⟩,
     ⟨some 3, none, .mv (.tmp 9)⟩]))))))
 (.seq (.ops [⟨some 20, none, .mv (.tmp 0)⟩,
   ⟨some 21, none, .len true (.tmp 20)⟩,
   ⟨some 22, none, .call (.func 73) [(.tmp 21), (.const (.int .i64 1)), (.const (.int .i64 6))]⟩,
   ⟨some 2, none, .mv (.tmp 22)⟩])
 .ret)))
theorem C71_ok : Try.f71.body.bind (comp Try.prog) = some C71 := by kernel_rfl
theorem C71_res : compRs Try.prog Try.f71.results.toList = some [.tmp 2] := by kernel_rfl
theorem C71_nm : (Try.f71.name == "runtime.NumGoroutine") = false := by kernel_rfl
theorem C71_fn {a0 : AV} {H : Heap} {Q : AV → Heap → Prop} (h : vc Try.prog C71 (vcEnd [.tmp 2] Q) H [a0, .any, .any, .any, .any, .any, .any, .any, .any, .any, .any, .any, .any, .any, .any, .any, .any, .any, .any, .any, .any, .any, .any]) : Runs Try.prog 71 [a0] H Q :=
  @fn_go Try.prog mixed 71 Try.f71 C71 [.tmp 2] Try.func71 C71_ok C71_res C71_nm 23 Try.ntmps71 [a0] [a0, .any, .any, .any, .any, .any, .any, .any, .any, .any, .any, .any, .any, .any, .any, .any, .any, .any, .any, .any, .any, .any, .any] H Q h 22 (by kernel_rfl) (by kernel_rfl)

/-- spec.l02Is -/
def C72 : CC :=
 (.seq (.ops [⟨some 2, none, .mv (.const (.bool false))⟩])
 (.seq (.ops [⟨some 3, none, .mv (.tmp 0)⟩,
   ⟨some 4, none, .call (.func 73) [(.tmp 3), (.const (.int .i64 0)), (.const (.int .i64 36524))]⟩,
   ⟨some 2, none, .mv (.tmp 4)⟩])
 .ret))
theorem C72_ok : Try.f72.body.bind (comp Try.prog) = some C72 := by kernel_rfl
theorem C72_res : compRs Try.prog Try.f72.results.toList = some [.tmp 2] := by kernel_rfl
theorem C72_nm : (Try.f72.name == "runtime.NumGoroutine") = false := by kernel_rfl
theorem C72_fn {a0 : AV} {H : Heap} {Q : AV → Heap → Prop} (h : vc Try.prog C72 (vcEnd [.tmp 2] Q) H [a0, .any, .any, .any, .any]) : Runs Try.prog 72 [a0] H Q :=
  @fn_go Try.prog mixed 72 Try.f72 C72 [.tmp 2] Try.func72 C72_ok C72_res C72_nm 5 Try.ntmps72 [a0] [a0, .any, .any, .any, .any] H Q h 4 (by kernel_rfl) (by kernel_rfl)

/-- spec.l02Weekday -/
def C144 : CC :=
 (.seq (.ops [⟨some 2, none, .mv (.const (.int .i64 0))⟩])
 (.seq (.ops [⟨some 3, none, .mv (.tmp 0)⟩,
   ⟨some 4, none, .bin .add 0 (.tmp 3) (.const (.int .i64 3))⟩,
   ⟨some 5, none, .bin .rem 0 (.tmp 4) (.const (.int .i64 7))⟩,
   ⟨some 2, none, .mv (.tmp 5)⟩])
 .ret))
theorem C144_ok : Try.f144.body.bind (comp Try.prog) = some C144 := by kernel_rfl
theorem C144_res : compRs Try.prog Try.f144.results.toList = some [.tmp 2] := by kernel_rfl
theorem C144_nm : (Try.f144.name == "runtime.NumGoroutine") = false := by kernel_rfl
theorem C144_fn {a0 : AV} {H : Heap} {Q : AV → Heap → Prop} (h : vc Try.prog C144 (vcEnd [.tmp 2] Q) H [a0, .any, .any, .any, .any, .any]) : Runs Try.prog 144 [a0] H Q :=
  @fn_go Try.prog mixed 144 Try.f144 C144 [.tmp 2] Try.func144 C144_ok C144_res C144_nm 6 Try.ntmps144 [a0] [a0, .any, .any, .any, .any, .any] H Q h 5 (by kernel_rfl) (by kernel_rfl)

/-- spec.l02Business -/
def C115 : CC :=
 (.seq (.ops [⟨some 4, none, .mv (.const (.int .i64 0))⟩])
 (.seq (.block 0 (.loop (.seq (.seq (.ops [⟨some 5, none, .mv (.tmp 0)⟩,
       ⟨some 6, none, .call (.func 144) [(.tmp 5)]⟩,
       ⟨some 7, none, .bin .gtr 0 (.tmp 6) (.const (.int .i64 4))⟩])
     (.cond (.tmp 7) .skip
     (.exit 0)))
    (.block 1 (.ops [⟨some 8, none, .mv (.tmp 0)⟩,
      ⟨some 9, none, .bin .add 0 (.tmp 8) (.const (.int .i64 1))⟩,
      ⟨some 0, none, .mv (.tmp 9)⟩])))))
 (.seq (.block 2 (.loop (.seq (.seq (.ops [⟨some 10, none, .mv (.tmp 1)⟩,
       ⟨some 11, none, .bin .gtr 0 (.tmp 10) (.const (.int .i64 0))⟩])
     (.cond (.tmp 11) .skip
     (.exit 2)))
    (.seq (.block 3 (.seq (.ops [⟨some 14, none, .mv (.tmp 0)⟩,
        ⟨some 15, none, .bin .add 0 (.tmp 14) (.const (.int .i64 1))⟩,
        ⟨some 0, none, .mv (.tmp 15)⟩])
      (.block 4 (.loop (.seq (.seq (.ops [⟨some 16, none, .mv (.tmp 0)⟩,
           ⟨some 17, none, .call (.func 144) [(.tmp 16)]⟩,
           ⟨some 18, none, .bin .gtr 0 (.tmp 17) (.const (.int .i64 4))⟩])
         (.cond (.tmp 18) .skip
         (.exit 4)))
        (.block 5 (.ops [⟨some 19, none, .mv (.tmp 0)⟩,
          ⟨some 20, none, .bin .add 0 (.tmp 19) (.const (.int .i64 1))⟩,
          ⟨some 0, none, .mv (.tmp 20)⟩])))))))
    (.ops [⟨some 12, none, .mv (.tmp 1)⟩,
     ⟨some 13, none, .bin .sub 0 (.tmp 12) (.const (.int .i64 1))⟩,
     ⟨some 1, none, .mv (.tmp 13)⟩])))))
 (.seq (.ops [⟨some 21, none, .mv (.tmp 0)⟩,
   ⟨some 4, none, .mv (.tmp 21)⟩])
 .ret))))
theorem C115_ok : Try.f115.body.bind (comp Try.prog) = some C115 := by kernel_rfl
theorem C115_res : compRs Try.prog Try.f115.results.toList = some [.tmp 4] := by kernel_rfl
theorem C115_nm : (Try.f115.name == "runtime.NumGoroutine") = false := by kernel_rfl
theorem C115_fn {a0 a1 : AV} {H : Heap} {Q : AV → Heap → Prop} (h : vc Try.prog C115 (vcEnd [.tmp 4] Q) H [a0, a1, .any, .any, .any, .any, .any, .any, .any, .any, .any, .any, .any, .any, .any, .any, .any, .any, .any, .any, .any, .any]) : Runs Try.prog 115 [a0, a1] H Q :=
  @fn_go Try.prog mixed 115 Try.f115 C115 [.tmp 4] Try.func115 C115_ok C115_res C115_nm 22 Try.ntmps115 [a0, a1] [a0, a1, .any, .any, .any, .any, .any, .any, .any, .any, .any, .any, .any, .any, .any, .any, .any, .any, .any, .any, .any, .any] H Q h 20 (by kernel_rfl) (by kernel_rfl)

/-- spec.l21Due -/
def C82 : CC :=
 (.seq (.ops [⟨some 1, none, .box (.tmp 0)⟩,
   ⟨some 2, none, .mv (.const (.int .i64 0))⟩])
 (.seq (.ops [⟨some 3, none, .fa 1 (.tmp 1)⟩,
   ⟨some 4, none, .load false 1 (.tmp 3)⟩,
   ⟨some 5, none, .fa 2 (.tmp 1)⟩,
   ⟨some 6, none, .load false 1 (.tmp 5)⟩,
   ⟨some 7, none, .call (.func 115) [(.tmp 4), (.tmp 6)]⟩,
   ⟨some 2, none, .mv (.tmp 7)⟩])
 .ret))
theorem C82_ok : Try.f82.body.bind (comp Try.prog) = some C82 := by kernel_rfl
theorem C82_res : compRs Try.prog Try.f82.results.toList = some [.tmp 2] := by kernel_rfl
theorem C82_nm : (Try.f82.name == "runtime.NumGoroutine") = false := by kernel_rfl
theorem C82_fn {a0 : AV} {H : Heap} {Q : AV → Heap → Prop} (h : vc Try.prog C82 (vcEnd [.tmp 2] Q) H [a0, .any, .any, .any, .any, .any, .any, .any]) : Runs Try.prog 82 [a0] H Q :=
  @fn_go Try.prog mixed 82 Try.f82 C82 [.tmp 2] Try.func82 C82_ok C82_res C82_nm 8 Try.ntmps82 [a0] [a0, .any, .any, .any, .any, .any, .any, .any] H Q h 7 (by kernel_rfl) (by kernel_rfl)

/-- spec.l21Days -/
def C74 : CC :=
 (.seq (.ops [⟨some 1, none, .box (.tmp 0)⟩,
   ⟨some 2, none, .mv (.const (.slice none 0 0))⟩])
 (.seq (.ops [⟨some 4, none, .load true 4 (.tmp 1)⟩,
   ⟨some 5, none, .call (.func 82) [(.tmp 4)]⟩,
   ⟨some 3, none, .mv (.tmp 5)⟩])
 (.seq (.ops [⟨some 6, none, .mv (.tmp 3)⟩,
   ⟨some 7, none, .call (.func 115) [(.tmp 6), (.const (.int .i64 1))]⟩,
   ⟨some 8, none, .mv (.tmp 3)⟩,
   ⟨some 9, none, .call (.func 115) [(.tmp 8), (.const (.int .i64 6))]⟩,
   ⟨some 10, none, .mv (.tmp 3)⟩,
   ⟨some 11, none, .call (.func 115) [(.tmp 10), (.const (.int .i64 16))]⟩,
   ⟨some 12, none, .lit 1 [(.tmp 7), (.tmp 9), (.tmp 11)]⟩,
   ⟨some 2, none, .mv (.tmp 12)⟩])
 .ret)))
theorem C74_ok : Try.f74.body.bind (comp Try.prog) = some C74 := by kernel_rfl
theorem C74_res : compRs Try.prog Try.f74.results.toList = some [.tmp 2] := by kernel_rfl
theorem C74_nm : (Try.f74.name == "runtime.NumGoroutine") = false := by kernel_rfl
theorem C74_fn {a0 : AV} {H : Heap} {Q : AV → Heap → Prop} (h : vc Try.prog C74 (vcEnd [.tmp 2] Q) H [a0, .any, .any, .any, .any, .any, .any, .any, .any, .any, .any, .any, .any]) : Runs Try.prog 74 [a0] H Q :=
  @fn_go Try.prog mixed 74 Try.f74 C74 [.tmp 2] Try.func74 C74_ok C74_res C74_nm 13 Try.ntmps74 [a0] [a0, .any, .any, .any, .any, .any, .any, .any, .any, .any, .any, .any, .any] H Q h 12 (by kernel_rfl) (by kernel_rfl)

/-- spec.IsDiary -/
def C16 : CC :=
 (.seq (.ops [⟨some 2, none, .mv (.const (.bool false))⟩])
 (.seq (.seq (.ops [⟨some 3, none, .mv (.const (.int .i64 0))⟩])
  (.block 0 (.loop (.seq (.seq (.ops [⟨some 5, none, .mv (.tmp 3)⟩,
       ⟨some 6, none, .mv (.tmp 0)⟩,
       ⟨some 7, none, .len false (.tmp 6)⟩,
       ⟨some 8, none, .bin .lss 0 (.tmp 5) (.tmp 7)⟩])
     (.cond (.tmp 8) .skip
     (.exit 0)))
    (.seq (.block 1 (.seq (.ops [⟨some 11, none, .mv (.tmp 0)⟩,
        ⟨some 12, none, .mv (.tmp 3)⟩,
        ⟨some 13, none, .ia 4 (.tmp 11) (.tmp 12)⟩,
        ⟨some 14, none, .load true 4 (.tmp 13)⟩,
        ⟨some 4, none, .alloc [.string ⟨#[]⟩, .int .i64 0, .int .i64 0, .int .i64 0]⟩,
        ⟨none, none, .store 4 (.tmp 4) (.tmp 14)⟩])
      (.seq (.seq (.draw 49 [⟨some 15, none, .fa 0 (.tmp 4)⟩,
         ⟨some 16, none, .load false 1 (.tmp 15)⟩,
         ⟨some 17, none, .call (.func 71) [(.tmp 16)]⟩,
         ⟨some 18, none, .not (.tmp 17)⟩,
         ⟨some 19, none, .mv (.tmp 18)⟩,
         ⟨some 20, some (19, false), .fa 1 (.tmp 4)⟩,
         ⟨some 21, some (19, false), .load false 1 (.tmp 20)⟩,
         ⟨some 22, some (19, false), .call (.func 72) [(.tmp 21)]⟩,
         ⟨some 23, some (19, false), .not (.tmp 22)⟩,
         ⟨some 24, none, .pick (.tmp 19) (.const (.bool true)) (.tmp 23)⟩,
         ⟨some 25, none, .mv (.tmp 24)⟩,
         ⟨some 26, some (25, false), .fa 2 (.tmp 4)⟩,
         ⟨some 27, some (25, false), .load false 1 (.tmp 26)⟩,
         ⟨some 28, some (25, false), .call (.func 73) [(.tmp 27), (.const (.int .i64 1)), (.const (.int .i64 100))]⟩,
         ⟨some 29, some (25, false), .not (.tmp 28)⟩,
         ⟨some 30, none, .pick (.tmp 25) (.const (.bool true)) (.tmp 29)⟩,
         ⟨some 31, none, .mv (.tmp 30)⟩,
         ⟨some 32, some (31, false), .fa 3 (.tmp 4)⟩,
         ⟨some 33, some (31, false), .load false 1 (.tmp 32)⟩,
         ⟨some 34, some (31, false), .bin .neq 0 (.tmp 33) (.const (.int .i64 (-1)))⟩,
         ⟨some 35, some (31, false), .mv (.tmp 34)⟩,
         ⟨some 36, some (35, true), .fa 3 (.tmp 4)⟩,
         ⟨some 37, some (35, true), .load false 1 (.tmp 36)⟩,
         ⟨some 38, some (35, true), .call (.func 72) [(.tmp 37)]⟩,
         ⟨some 39, some (35, true), .not (.tmp 38)⟩,
         ⟨some 40, some (35, true), .mv (.tmp 39)⟩,
         ⟨some 41, some (40, false), .fa 3 (.tmp 4)⟩,
         ⟨some 42, some (40, false), .load false 1 (.tmp 41)⟩,
         ⟨some 43, some (40, false), .fa 1 (.tmp 4)⟩,
         ⟨some 44, some (40, false), .load false 1 (.tmp 43)⟩,
         ⟨some 45, some (40, false), .bin .lss 0 (.tmp 42) (.tmp 44)⟩,
         ⟨some 46, some (35, true), .pick (.tmp 40) (.const (.bool true)) (.tmp 45)⟩,
         ⟨some 47, some (31, false), .pick (.tmp 35) (.tmp 46) (.const (.bool false))⟩,
         ⟨some 48, none, .pick (.tmp 31) (.const (.bool true)) (.tmp 47)⟩,
         ⟨some 49, none, .mv (.tmp 48)⟩,
         ⟨some 50, some (49, false), .mv (.tmp 3)⟩,
         ⟨some 51, some (49, false), .bin .gtr 0 (.tmp 50) (.const (.int .i64 0))⟩,
         ⟨some 52, some (49, false), .mv (.tmp 51)⟩,
         ⟨some 53, some (52, true), .fa 1 (.tmp 4)⟩,
         ⟨some 54, some (52, true), .load false 1 (.tmp 53)⟩,
         ⟨some 55, some (52, true), .mv (.tmp 0)⟩,
         ⟨some 56, some (52, true), .mv (.tmp 3)⟩,
         ⟨some 57, some (52, true), .bin .sub 0 (.tmp 56) (.const (.int .i64 1))⟩,
         ⟨some 58, some (52, true), .ia 4 (.tmp 55) (.tmp 57)⟩,
         ⟨some 59, some (52, true), .fa 1 (.tmp 58)⟩,
         ⟨some 60, some (52, true), .load false 1 (.tmp 59)⟩,
         ⟨some 61, some (52, true), .bin .lss 0 (.tmp 54) (.tmp 60)⟩,
         ⟨some 62, some (49, false), .pick (.tmp 52) (.tmp 61) (.const (.bool false))⟩,
         ⟨some 63, none, .pick (.tmp 49) (.const (.bool true)) (.tmp 62)⟩])
       (.cond (.tmp 63) (.seq (.ops [⟨some 2, none, .mv (.const (.bool false))⟩])
        .ret)
       .skip))
      (.seq (.ops [⟨some 64, none, .load true 4 (.tmp 4)⟩,
        ⟨some 65, none, .call (.func 74) [(.tmp 64)]⟩,
        ⟨some 66, none, .ia 1 (.tmp 65) (.const (.int .i64 2))⟩,
        ⟨some 67, none, .load false 1 (.tmp 66)⟩,
        ⟨some 68, none, .call (.func 72) [(.tmp 67)]⟩,
        ⟨some 69, none, .not (.tmp 68)⟩])
      (.cond (.tmp 69) (.seq (.ops [⟨some 2, none, .mv (.const (.bool false))⟩])
       .ret)
      .skip)))))
    (.ops [⟨some 9, none, .mv (.tmp 3)⟩,
     ⟨some 10, none, .bin .add 0 (.tmp 9) (.const (.int .i64 1))⟩,
     ⟨some 3, none, .mv (.tmp 10)⟩]))))))
 (.seq (.ops [⟨some 70, none, .mv (.tmp 0)⟩,
   ⟨some 71, none, .len false (.tmp 70)⟩,
   ⟨some 72, none, .bin .leq 0 (.tmp 71) (.const (.int .i64 12))⟩,
   ⟨some 2, none, .mv (.tmp 72)⟩])
 .ret)))
theorem C16_ok : Try.f16.body.bind (comp Try.prog) = some C16 := by kernel_rfl
theorem C16_res : compRs Try.prog Try.f16.results.toList = some [.tmp 2] := by kernel_rfl
theorem C16_nm : (Try.f16.name == "runtime.NumGoroutine") = false := by kernel_rfl
theorem C16_fn {a0 : AV} {H : Heap} {Q : AV → Heap → Prop} (h : vc Try.prog C16 (vcEnd [.tmp 2] Q) H [a0, .any, .any, .any, .any, .any, .any, .any, .any, .any, .any, .any, .any, .any, .any, .any, .any, .any, .any, .any, .any, .any, .any, .any, .any, .any, .any, .any, .any, .any, .any, .any, .any, .any, .any, .any, .any, .any, .any, .any, .any, .any, .any, .any, .any, .any, .any, .any, .any, .any, .any, .any, .any, .any, .any, .any, .any, .any, .any, .any, .any, .any, .any, .any, .any, .any, .any, .any, .any, .any, .any, .any, .any]) : Runs Try.prog 16 [a0] H Q :=
  @fn_go Try.prog mixed 16 Try.f16 C16 [.tmp 2] Try.func16 C16_ok C16_res C16_nm 73 Try.ntmps16 [a0] [a0, .any, .any, .any, .any, .any, .any, .any, .any, .any, .any, .any, .any, .any, .any, .any, .any, .any, .any, .any, .any, .any, .any, .any, .any, .any, .any, .any, .any, .any, .any, .any, .any, .any, .any, .any, .any, .any, .any, .any, .any, .any, .any, .any, .any, .any, .any, .any, .any, .any, .any, .any, .any, .any, .any, .any, .any, .any, .any, .any, .any, .any, .any, .any, .any, .any, .any, .any, .any, .any, .any, .any, .any] H Q h 72 (by kernel_rfl) (by kernel_rfl)

/-- laws.toNotice -/
def C75 : CC :=
 (.seq (.ops [⟨some 1, none, .box (.tmp 0)⟩,
   ⟨some 2, none, .alloc [.string ⟨#[]⟩, .int .i64 0, .int .i64 0, .int .i64 0]⟩])
 (.seq (.ops [⟨some 3, none, .alloc [.string ⟨#[]⟩, .int .i64 0, .int .i64 0, .int .i64 0]⟩])
 (.seq (.ops [⟨some 4, none, .fa 0 (.tmp 1)⟩,
   ⟨some 5, none, .load false 1 (.tmp 4)⟩,
   ⟨some 6, none, .fa 0 (.tmp 3)⟩,
   ⟨none, none, .store 1 (.tmp 6) (.tmp 5)⟩])
 (.seq (.ops [⟨some 7, none, .fa 1 (.tmp 1)⟩,
   ⟨some 8, none, .load false 1 (.tmp 7)⟩,
   ⟨some 9, none, .fa 1 (.tmp 3)⟩,
   ⟨none, none, .store 1 (.tmp 9) (.tmp 8)⟩])
 (.seq (.ops [⟨some 10, none, .fa 2 (.tmp 1)⟩,
   ⟨some 11, none, .load false 1 (.tmp 10)⟩,
   ⟨some 12, none, .fa 2 (.tmp 3)⟩,
   ⟨none, none, .store 1 (.tmp 12) (.tmp 11)⟩])
 (.seq (.ops [⟨some 13, none, .fa 3 (.tmp 1)⟩,
   ⟨some 14, none, .load false 1 (.tmp 13)⟩,
   ⟨some 15, none, .fa 3 (.tmp 3)⟩,
   ⟨none, none, .store 1 (.tmp 15) (.tmp 14)⟩])
 (.seq (.ops [⟨some 16, none, .load true 4 (.tmp 3)⟩,
   ⟨none, none, .store 4 (.tmp 2) (.tmp 16)⟩])
 .ret)))))))
theorem C75_ok : Try.f75.body.bind (comp Try.prog) = some C75 := by kernel_rfl
theorem C75_res : compRs Try.prog Try.f75.results.toList = some [.cell true 4 2] := by kernel_rfl
theorem C75_nm : (Try.f75.name == "runtime.NumGoroutine") = false := by kernel_rfl
theorem C75_fn {a0 : AV} {H : Heap} {Q : AV → Heap → Prop} (h : vc Try.prog C75 (vcEnd [.cell true 4 2] Q) H [a0, .any, .any, .any, .any, .any, .any, .any, .any, .any, .any, .any, .any, .any, .any, .any, .any]) : Runs Try.prog 75 [a0] H Q :=
  @fn_go Try.prog mixed 75 Try.f75 C75 [.cell true 4 2] Try.func75 C75_ok C75_res C75_nm 17 Try.ntmps75 [a0] [a0, .any, .any, .any, .any, .any, .any, .any, .any, .any, .any, .any, .any, .any, .any, .any, .any] H Q h 16 (by kernel_rfl) (by kernel_rfl)

/-- laws.toNoticeS -/
def C17 : CC :=
 (.seq (.ops [⟨some 2, none, .mv (.const (.slice none 0 0))⟩])
 (.seq (.ops [⟨some 5, none, .mv (.tmp 0)⟩,
   ⟨some 6, none, .len false (.tmp 5)⟩,
   ⟨some 7, none, .mks [.string ⟨#[]⟩, .int .i64 0, .int .i64 0, .int .i64 0] 40 (.tmp 6)⟩,
   ⟨some 3, none, .mv (.tmp 7)⟩])
 (.seq (.seq (.ops [⟨some 4, none, .mv (.const (.int .i64 0))⟩])
  (.block 0 (.loop (.seq (.seq (.ops [⟨some 8, none, .mv (.tmp 4)⟩,
       ⟨some 9, none, .mv (.tmp 0)⟩,
       ⟨some 10, none, .len false (.tmp 9)⟩,
       ⟨some 11, none, .bin .lss 0 (.tmp 8) (.tmp 10)⟩])
     (.cond (.tmp 11) .skip
     (.exit 0)))
    (.seq (.block 1 (.ops [⟨some 14, none, .mv (.tmp 3)⟩,
       ⟨some 15, none, .mv (.tmp 4)⟩,
       ⟨some 16, none, .mv (.tmp 0)⟩,
       ⟨some 17, none, .mv (.tmp 4)⟩,
       ⟨some 18, none, .ia 4 (.tmp 16) (.tmp 17)⟩,
       ⟨some 19, none, .load true 4 (.tmp 18)⟩,
       ⟨some 20, none, .call (.func 75) [(.tmp 19)]⟩,
       ⟨some 21, none, .ia 4 (.tmp 14) (.tmp 15)⟩,
       ⟨none, none, .store 4 (.tmp 21) (.tmp 20)⟩]))
    (.ops [⟨some 12, none, .mv (.tmp 4)⟩,
     ⟨some 13, none, .bin .add 0 (.tmp 12) (.const (.int .i64 1))⟩,
     ⟨some 4, none, .mv (.tmp 13)⟩]))))))
 (.seq (.ops [⟨some 22, none, .mv (.tmp 3)⟩,
   ⟨some 2, none, .mv (.tmp 22)⟩])
 .ret))))
theorem C17_ok : Try.f17.body.bind (comp Try.prog) = some C17 := by kernel_rfl
theorem C17_res : compRs Try.prog Try.f17.results.toList = some [.tmp 2] := by kernel_rfl
theorem C17_nm : (Try.f17.name == "runtime.NumGoroutine") = false := by kernel_rfl
theorem C17_fn {a0 : AV} {H : Heap} {Q : AV → Heap → Prop} (h : vc Try.prog C17 (vcEnd [.tmp 2] Q) H [a0, .any, .any, .any, .any, .any, .any, .any, .any, .any, .any, .any, .any, .any, .any, .any, .any, .any, .any, .any, .any, .any, .any]) : Runs Try.prog 17 [a0] H Q :=
  @fn_go Try.prog mixed 17 Try.f17 C17 [.tmp 2] Try.func17 C17_ok C17_res C17_nm 23 Try.ntmps17 [a0] [a0, .any, .any, .any, .any, .any, .any, .any, .any, .any, .any, .any, .any, .any, .any, .any, .any, .any, .any, .any, .any, .any, .any] H Q h 22 (by kernel_rfl) (by kernel_rfl)

/-- slices.IndexFunc[[]impl.Notice,impl.Notice] -/
def C145 : CC :=
 (.seq (.ops [⟨some 4, none, .mv (.const (.int .i64 0))⟩])
 (.seq (.seq (.ops [⟨some 6, none, .mv (.tmp 0)⟩,
    ⟨some 7, none, .len false (.tmp 6)⟩,
    ⟨some 8, none, .mv (.const (.int .i64 0))⟩])
  (.block 0 (.loop (.seq (.ops [⟨some 9, none, .bin .lss 0 (.tmp 8) (.tmp 7)⟩])
    (.seq (.cond (.tmp 9) .skip
     (.exit 0))
    (.seq (.block 1 (.seq (.ops [⟨some 10, none, .mv (.tmp 8)⟩,
        ⟨some 5, none, .mv (.tmp 10)⟩])
      (.seq (.ops [⟨some 11, none, .mv (.tmp 1)⟩,
        ⟨some 12, none, .mv (.tmp 0)⟩,
        ⟨some 13, none, .mv (.tmp 5)⟩,
        ⟨some 14, none, .ia 4 (.tmp 12) (.tmp 13)⟩,
        ⟨some 15, none, .load true 4 (.tmp 14)⟩,
        ⟨some 16, none, .call (.tmp 11) [(.tmp 15)]⟩])
      (.cond (.tmp 16) (.seq (.ops [⟨some 17, none, .mv (.tmp 5)⟩,
         ⟨some 4, none, .mv (.tmp 17)⟩])
       .ret)
      .skip))))
    (.ops [⟨some 18, none, .bin .add 0 (.tmp 8) (.const (.int .i64 1))⟩,
     ⟨some 8, none, .mv (.tmp 18)⟩])))))))
 (.seq (.ops [⟨some 4, none, .mv (.const (.int .i64 (-1)))⟩])
 .ret)))
theorem C145_ok : Try.f145.body.bind (comp Try.prog) = some C145 := by kernel_rfl
theorem C145_res : compRs Try.prog Try.f145.results.toList = some [.tmp 4] := by kernel_rfl
theorem C145_nm : (Try.f145.name == "runtime.NumGoroutine") = false := by kernel_rfl
theorem C145_fn {a0 a1 : AV} {H : Heap} {Q : AV → Heap → Prop} (h : vc Try.prog C145 (vcEnd [.tmp 4] Q) H [a0, a1, .any, .any, .any, .any, .any, .any, .any, .any, .any, .any, .any, .any, .any, .any, .any, .any, .any]) : Runs Try.prog 145 [a0, a1] H Q :=
  @fn_go Try.prog mixed 145 Try.f145 C145 [.tmp 4] Try.func145 C145_ok C145_res C145_nm 19 Try.ntmps145 [a0, a1] [a0, a1, .any, .any, .any, .any, .any, .any, .any, .any, .any, .any, .any, .any, .any, .any, .any, .any, .any] H Q h 17 (by kernel_rfl) (by kernel_rfl)

/-- slices.ContainsFunc[[]impl.Notice,impl.Notice] -/
def C116 : CC :=
 (.seq (.ops [⟨some 4, none, .mv (.const (.bool false))⟩])
 (.seq (.ops [⟨some 5, none, .mv (.tmp 0)⟩,
   ⟨some 6, none, .mv (.tmp 1)⟩,
   ⟨some 7, none, .call (.func 145) [(.tmp 5), (.tmp 6)]⟩,
   ⟨some 8, none, .bin .geq 0 (.tmp 7) (.const (.int .i64 0))⟩,
   ⟨some 4, none, .mv (.tmp 8)⟩])
 .ret))
theorem C116_ok : Try.f116.body.bind (comp Try.prog) = some C116 := by kernel_rfl
theorem C116_res : compRs Try.prog Try.f116.results.toList = some [.tmp 4] := by kernel_rfl
theorem C116_nm : (Try.f116.name == "runtime.NumGoroutine") = false := by kernel_rfl
theorem C116_fn {a0 a1 : AV} {H : Heap} {Q : AV → Heap → Prop} (h : vc Try.prog C116 (vcEnd [.tmp 4] Q) H [a0, a1, .any, .any, .any, .any, .any, .any, .any]) : Runs Try.prog 116 [a0, a1] H Q :=
  @fn_go Try.prog mixed 116 Try.f116 C116 [.tmp 4] Try.func116 C116_ok C116_res C116_nm 9 Try.ntmps116 [a0, a1] [a0, a1, .any, .any, .any, .any, .any, .any, .any] H Q h 7 (by kernel_rfl) (by kernel_rfl)

/-- impl.all[impl.Notice]$1 -/
def C117 : CC :=
 (.seq (.ops [⟨some 2, none, .box (.tmp 0)⟩,
   ⟨some 3, none, .mv (.const (.bool false))⟩])
 (.seq (.ops [⟨some 4, none, .load false 1 (.tmp 1)⟩,
   ⟨some 5, none, .load true 4 (.tmp 2)⟩,
   ⟨some 6, none, .call (.tmp 4) [(.tmp 5)]⟩,
   ⟨some 7, none, .not (.tmp 6)⟩,
   ⟨some 3, none, .mv (.tmp 7)⟩])
 .ret))
theorem C117_ok : Try.f117.body.bind (comp Try.prog) = some C117 := by kernel_rfl
theorem C117_res : compRs Try.prog Try.f117.results.toList = some [.tmp 3] := by kernel_rfl
theorem C117_nm : (Try.f117.name == "runtime.NumGoroutine") = false := by kernel_rfl
theorem C117_fn {a0 a1 : AV} {H : Heap} {Q : AV → Heap → Prop} (h : vc Try.prog C117 (vcEnd [.tmp 3] Q) H [a0, a1, .any, .any, .any, .any, .any, .any]) : Runs Try.prog 117 [a0, a1] H Q :=
  @fn_go Try.prog mixed 117 Try.f117 C117 [.tmp 3] Try.func117 C117_ok C117_res C117_nm 8 Try.ntmps117 [a0, a1] [a0, a1, .any, .any, .any, .any, .any, .any] H Q h 6 (by kernel_rfl) (by kernel_rfl)

/-- impl.all[impl.Notice] -/
def C76 : CC :=
 (.seq (.ops [⟨some 3, none, .box (.tmp 1)⟩,
   ⟨some 4, none, .mv (.const (.bool false))⟩])
 (.seq (.ops [⟨some 5, none, .mv (.tmp 0)⟩,
   ⟨some 6, none, .mkf 117 [(.tmp 3)]⟩,
   ⟨some 7, none, .call (.func 116) [(.tmp 5), (.tmp 6)]⟩,
   ⟨some 8, none, .not (.tmp 7)⟩,
   ⟨some 4, none, .mv (.tmp 8)⟩])
 .ret))
theorem C76_ok : Try.f76.body.bind (comp Try.prog) = some C76 := by kernel_rfl
theorem C76_res : compRs Try.prog Try.f76.results.toList = some [.tmp 4] := by kernel_rfl
theorem C76_nm : (Try.f76.name == "runtime.NumGoroutine") = false := by kernel_rfl
theorem C76_fn {a0 a1 : AV} {H : Heap} {Q : AV → Heap → Prop} (h : vc Try.prog C76 (vcEnd [.tmp 4] Q) H [a0, a1, .any, .any, .any, .any, .any, .any, .any]) : Runs Try.prog 76 [a0, a1] H Q :=
  @fn_go Try.prog mixed 76 Try.f76 C76 [.tmp 4] Try.func76 C76_ok C76_res C76_nm 9 Try.ntmps76 [a0, a1] [a0, a1, .any, .any, .any, .any, .any, .any, .any] H Q h 7 (by kernel_rfl) (by kernel_rfl)

/-- impl.weekday -/
def C164 : CC :=
 (.seq (.ops [⟨some 2, none, .mv (.const (.int .i64 0))⟩])
 (.seq (.ops [⟨some 3, none, .mv (.tmp 0)⟩,
   ⟨some 4, none, .bin .add 0 (.tmp 3) (.const (.int .i64 3))⟩,
   ⟨some 5, none, .bin .rem 0 (.tmp 4) (.const (.int .i64 7))⟩,
   ⟨some 2, none, .mv (.tmp 5)⟩])
 .ret))
theorem C164_ok : Try.f164.body.bind (comp Try.prog) = some C164 := by kernel_rfl
theorem C164_res : compRs Try.prog Try.f164.results.toList = some [.tmp 2] := by kernel_rfl
theorem C164_nm : (Try.f164.name == "runtime.NumGoroutine") = false := by kernel_rfl
theorem C164_fn {a0 : AV} {H : Heap} {Q : AV → Heap → Prop} (h : vc Try.prog C164 (vcEnd [.tmp 2] Q) H [a0, .any, .any, .any, .any, .any]) : Runs Try.prog 164 [a0] H Q :=
  @fn_go Try.prog mixed 164 Try.f164 C164 [.tmp 2] Try.func164 C164_ok C164_res C164_nm 6 Try.ntmps164 [a0] [a0, .any, .any, .any, .any, .any] H Q h 5 (by kernel_rfl) (by kernel_rfl)

/-- impl.onBusiness -/
def C150 : CC :=
 (.seq (.ops [⟨some 2, none, .mv (.const (.int .i64 0))⟩])
 (.seq (.block 0 (.loop (.seq (.seq (.ops [⟨some 3, none, .mv (.tmp 0)⟩,
       ⟨some 4, none, .call (.func 164) [(.tmp 3)]⟩,
       ⟨some 5, none, .bin .gtr 0 (.tmp 4) (.const (.int .i64 4))⟩])
     (.cond (.tmp 5) .skip
     (.exit 0)))
    (.block 1 (.ops [⟨some 6, none, .mv (.tmp 0)⟩,
      ⟨some 7, none, .bin .add 0 (.tmp 6) (.const (.int .i64 1))⟩,
      ⟨some 0, none, .mv (.tmp 7)⟩])))))
 (.seq (.ops [⟨some 8, none, .mv (.tmp 0)⟩,
   ⟨some 2, none, .mv (.tmp 8)⟩])
 .ret)))
theorem C150_ok : Try.f150.body.bind (comp Try.prog) = some C150 := by kernel_rfl
theorem C150_res : compRs Try.prog Try.f150.results.toList = some [.tmp 2] := by kernel_rfl
theorem C150_nm : (Try.f150.name == "runtime.NumGoroutine") = false := by kernel_rfl
theorem C150_fn {a0 : AV} {H : Heap} {Q : AV → Heap → Prop} (h : vc Try.prog C150 (vcEnd [.tmp 2] Q) H [a0, .any, .any, .any, .any, .any, .any, .any, .any]) : Runs Try.prog 150 [a0] H Q :=
  @fn_go Try.prog mixed 150 Try.f150 C150 [.tmp 2] Try.func150 C150_ok C150_res C150_nm 9 Try.ntmps150 [a0] [a0, .any, .any, .any, .any, .any, .any, .any, .any] H Q h 8 (by kernel_rfl) (by kernel_rfl)

/-- impl.businessDay -/
def C123 : CC :=
 (.seq (.ops [⟨some 4, none, .mv (.const (.int .i64 0))⟩])
 (.seq (.ops [⟨some 5, none, .mv (.tmp 0)⟩,
   ⟨some 6, none, .call (.func 150) [(.tmp 5)]⟩,
   ⟨some 0, none, .mv (.tmp 6)⟩])
 (.seq (.seq (.ops [⟨some 7, none, .mv (.tmp 1)⟩,
    ⟨some 8, none, .mv (.const (.int .i64 0))⟩])
  (.block 0 (.loop (.seq (.ops [⟨some 9, none, .bin .lss 0 (.tmp 8) (.tmp 7)⟩])
    (.seq (.cond (.tmp 9) .skip
     (.exit 0))
    (.seq (.block 1 (.ops [⟨some 10, none, .mv (.tmp 0)⟩,
       ⟨some 11, none, .bin .add 0 (.tmp 10) (.const (.int .i64 1))⟩,
       ⟨some 12, none, .call (.func 150) [(.tmp 11)]⟩,
       ⟨some 0, none, .mv (.tmp 12)⟩]))
    (.ops [⟨some 13, none, .bin .add 0 (.tmp 8) (.const (.int .i64 1))⟩,
     ⟨some 8, none, .mv (.tmp 13)⟩])))))))
 (.seq (.ops [⟨some 14, none, .mv (.tmp 0)⟩,
   ⟨some 4, none, .mv (.tmp 14)⟩])
 .ret))))
theorem C123_ok : Try.f123.body.bind (comp Try.prog) = some C123 := by kernel_rfl
theorem C123_res : compRs Try.prog Try.f123.results.toList = some [.tmp 4] := by kernel_rfl
theorem C123_nm : (Try.f123.name == "runtime.NumGoroutine") = false := by kernel_rfl
theorem C123_fn {a0 a1 : AV} {H : Heap} {Q : AV → Heap → Prop} (h : vc Try.prog C123 (vcEnd [.tmp 4] Q) H [a0, a1, .any, .any, .any, .any, .any, .any, .any, .any, .any, .any, .any, .any, .any]) : Runs Try.prog 123 [a0, a1] H Q :=
  @fn_go Try.prog mixed 123 Try.f123 C123 [.tmp 4] Try.func123 C123_ok C123_res C123_nm 15 Try.ntmps123 [a0, a1] [a0, a1, .any, .any, .any, .any, .any, .any, .any, .any, .any, .any, .any, .any, .any] H Q h 13 (by kernel_rfl) (by kernel_rfl)

/-- (impl.Notice).due -/
def C84 : CC :=
 (.seq (.ops [⟨some 1, none, .box (.tmp 0)⟩,
   ⟨some 2, none, .mv (.const (.int .i64 0))⟩])
 (.seq (.ops [⟨some 3, none, .fa 1 (.tmp 1)⟩,
   ⟨some 4, none, .load false 1 (.tmp 3)⟩,
   ⟨some 5, none, .fa 2 (.tmp 1)⟩,
   ⟨some 6, none, .load false 1 (.tmp 5)⟩,
   ⟨some 7, none, .call (.func 123) [(.tmp 4), (.tmp 6)]⟩,
   ⟨some 2, none, .mv (.tmp 7)⟩])
 .ret))
theorem C84_ok : Try.f84.body.bind (comp Try.prog) = some C84 := by kernel_rfl
theorem C84_res : compRs Try.prog Try.f84.results.toList = some [.tmp 2] := by kernel_rfl
theorem C84_nm : (Try.f84.name == "runtime.NumGoroutine") = false := by kernel_rfl
theorem C84_fn {a0 : AV} {H : Heap} {Q : AV → Heap → Prop} (h : vc Try.prog C84 (vcEnd [.tmp 2] Q) H [a0, .any, .any, .any, .any, .any, .any, .any]) : Runs Try.prog 84 [a0] H Q :=
  @fn_go Try.prog mixed 84 Try.f84 C84 [.tmp 2] Try.func84 C84_ok C84_res C84_nm 8 Try.ntmps84 [a0] [a0, .any, .any, .any, .any, .any, .any, .any] H Q h 7 (by kernel_rfl) (by kernel_rfl)

/-- (impl.Notice).reminders -/
def C86 : CC :=
 (.seq (.ops [⟨some 1, none, .box (.tmp 0)⟩,
   ⟨some 2, none, .mv (.const (.slice none 0 0))⟩])
 (.seq (.ops [⟨some 4, none, .load true 4 (.tmp 1)⟩,
   ⟨some 5, none, .call (.func 84) [(.tmp 4)]⟩,
   ⟨some 3, none, .mv (.tmp 5)⟩])
 (.seq (.ops [⟨some 6, none, .mv (.tmp 3)⟩,
   ⟨some 7, none, .call (.func 123) [(.tmp 6), (.const (.int .i64 1))]⟩,
   ⟨some 8, none, .mv (.tmp 3)⟩,
   ⟨some 9, none, .call (.func 123) [(.tmp 8), (.const (.int .i64 6))]⟩,
   ⟨some 10, none, .mv (.tmp 3)⟩,
   ⟨some 11, none, .call (.func 123) [(.tmp 10), (.const (.int .i64 16))]⟩,
   ⟨some 12, none, .lit 1 [(.tmp 7), (.tmp 9), (.tmp 11)]⟩,
   ⟨some 2, none, .mv (.tmp 12)⟩])
 .ret)))
theorem C86_ok : Try.f86.body.bind (comp Try.prog) = some C86 := by kernel_rfl
theorem C86_res : compRs Try.prog Try.f86.results.toList = some [.tmp 2] := by kernel_rfl
theorem C86_nm : (Try.f86.name == "runtime.NumGoroutine") = false := by kernel_rfl
theorem C86_fn {a0 : AV} {H : Heap} {Q : AV → Heap → Prop} (h : vc Try.prog C86 (vcEnd [.tmp 2] Q) H [a0, .any, .any, .any, .any, .any, .any, .any, .any, .any, .any, .any, .any]) : Runs Try.prog 86 [a0] H Q :=
  @fn_go Try.prog mixed 86 Try.f86 C86 [.tmp 2] Try.func86 C86_ok C86_res C86_nm 13 Try.ntmps86 [a0] [a0, .any, .any, .any, .any, .any, .any, .any, .any, .any, .any, .any, .any] H Q h 12 (by kernel_rfl) (by kernel_rfl)

/-- (impl.Notice).isOpen -/
def C87 : CC :=
 (.seq (.ops [⟨some 1, none, .box (.tmp 0)⟩,
   ⟨some 2, none, .mv (.const (.bool false))⟩])
 (.seq (.ops [⟨some 3, none, .fa 3 (.tmp 1)⟩,
   ⟨some 4, none, .load false 1 (.tmp 3)⟩,
   ⟨some 5, none, .bin .eql 0 (.tmp 4) (.const (.int .i64 (-1)))⟩,
   ⟨some 2, none, .mv (.tmp 5)⟩])
 .ret))
theorem C87_ok : Try.f87.body.bind (comp Try.prog) = some C87 := by kernel_rfl
theorem C87_res : compRs Try.prog Try.f87.results.toList = some [.tmp 2] := by kernel_rfl
theorem C87_nm : (Try.f87.name == "runtime.NumGoroutine") = false := by kernel_rfl
theorem C87_fn {a0 : AV} {H : Heap} {Q : AV → Heap → Prop} (h : vc Try.prog C87 (vcEnd [.tmp 2] Q) H [a0, .any, .any, .any, .any, .any]) : Runs Try.prog 87 [a0] H Q :=
  @fn_go Try.prog mixed 87 Try.f87 C87 [.tmp 2] Try.func87 C87_ok C87_res C87_nm 6 Try.ntmps87 [a0] [a0, .any, .any, .any, .any, .any] H Q h 5 (by kernel_rfl) (by kernel_rfl)

/-- impl.spelled -/
def C146 : CC :=
 (.seq (.ops [⟨some 10, none, .mv (.const (.bool false))⟩])
 (.seq (.seq (.ops [⟨some 12, none, .mv (.tmp 0)⟩,
    ⟨some 13, none, .len true (.tmp 12)⟩,
    ⟨some 14, none, .mv (.const (.int .i64 0))⟩])
  (.block 0 (.loop (.seq (.ops [⟨some 15, none, .bin .lss 0 (.tmp 14) (.tmp 13)⟩])
    (.seq (.cond (.tmp 15) .skip
     (.exit 0))
    (.seq (.block 1 (.seq (.ops [⟨some 16, none, .mv (.tmp 14)⟩,
        ⟨some 11, none, .mv (.tmp 16)⟩])
      (.seq (.ops [⟨some 17, none, .mv (.tmp 0)⟩,
        ⟨some 18, none, .mv (.tmp 11)⟩,
        ⟨some 19, none, .idx (.tmp 17) (.tmp 18)⟩,
        ⟨some 20, none, .mv (.tmp 3)⟩,
        ⟨some 21, none, .bin .lss 0 (.tmp 19) (.tmp 20)⟩,
        ⟨some 22, none, .mv (.tmp 21)⟩,
        ⟨some 23, some (22, false), .mv (.tmp 0)⟩,
        ⟨some 24, some (22, false), .mv (.tmp 11)⟩,
        ⟨some 25, some (22, false), .idx (.tmp 23) (.tmp 24)⟩,
        ⟨some 26, some (22, false), .mv (.tmp 4)⟩,
        ⟨some 27, some (22, false), .bin .gtr 0 (.tmp 25) (.tmp 26)⟩,
        ⟨some 28, none, .pick (.tmp 22) (.const (.bool true)) (.tmp 27)⟩])
      (.cond (.tmp 28) (.seq (.ops [⟨some 10, none, .mv (.const (.bool false))⟩])
       .ret)
      .skip))))
    (.ops [⟨some 29, none, .bin .add 0 (.tmp 14) (.const (.int .i64 1))⟩,
     ⟨some 14, none, .mv (.tmp 29)⟩])))))))
 (.seq (.ops [⟨some 30, none, .mv (.tmp 0)⟩,
   ⟨some 31, none, .len true (.tmp 30)⟩,
   ⟨some 32, none, .mv (.tmp 1)⟩,
   ⟨some 33, none, .bin .geq 0 (.tmp 31) (.tmp 32)⟩,
   ⟨some 34, none, .mv (.tmp 33)⟩,
   ⟨some 35, some (34, true), .mv (.tmp 0)⟩,
   ⟨some 36, some (34, true), .len true (.tmp 35)⟩,
   ⟨some 37, some (34, true), .mv (.tmp 2)⟩,
   ⟨some 38, some (34, true), .bin .leq 0 (.tmp 36) (.tmp 37)⟩,
   ⟨some 39, none, .pick (.tmp 34) (.tmp 38) (.const (.bool false))⟩,
   ⟨some 10, none, .mv (.tmp 39)⟩])
 .ret)))
theorem C146_ok : Try.f146.body.bind (comp Try.prog) = some C146 := by kernel_rfl
theorem C146_res : compRs Try.prog Try.f146.results.toList = some [.tmp 10] := by kernel_rfl
theorem C146_nm : (Try.f146.name == "runtime.NumGoroutine") = false := by kernel_rfl
theorem C146_fn {a0 a1 a2 a3 a4 : AV} {H : Heap} {Q : AV → Heap → Prop} (h : vc Try.prog C146 (vcEnd [.tmp 10] Q) H [a0, a1, a2, a3, a4, .any, .any, .any, .any, .any, .any, .any, .any, .any, .any, .any, .any, .any, .any, .any, .any, .any, .any, .any, .any, .any, .any, .any, .any, .any, .any, .any, .any, .any, .any, .any, .any, .any, .any, .any]) : Runs Try.prog 146 [a0, a1, a2, a3, a4] H Q :=
  @fn_go Try.prog mixed 146 Try.f146 C146 [.tmp 10] Try.func146 C146_ok C146_res C146_nm 40 Try.ntmps146 [a0, a1, a2, a3, a4] [a0, a1, a2, a3, a4, .any, .any, .any, .any, .any, .any, .any, .any, .any, .any, .any, .any, .any, .any, .any, .any, .any, .any, .any, .any, .any, .any, .any, .any, .any, .any, .any, .any, .any, .any, .any, .any, .any, .any, .any] H Q h 35 (by kernel_rfl) (by kernel_rfl)

/-- impl.IsPartyCode -/
def C118 : CC :=
 (.seq (.ops [⟨some 2, none, .mv (.const (.bool false))⟩])
 (.seq (.ops [⟨some 3, none, .mv (.tmp 0)⟩,
   ⟨some 4, none, .call (.func 146) [(.tmp 3), (.const (.int .i64 1)), (.const (.int .i64 6)), (.const (.int .u8 97)), (.const (.int .u8 122))]⟩,
   ⟨some 2, none, .mv (.tmp 4)⟩])
 .ret))
theorem C118_ok : Try.f118.body.bind (comp Try.prog) = some C118 := by kernel_rfl
theorem C118_res : compRs Try.prog Try.f118.results.toList = some [.tmp 2] := by kernel_rfl
theorem C118_nm : (Try.f118.name == "runtime.NumGoroutine") = false := by kernel_rfl
theorem C118_fn {a0 : AV} {H : Heap} {Q : AV → Heap → Prop} (h : vc Try.prog C118 (vcEnd [.tmp 2] Q) H [a0, .any, .any, .any, .any]) : Runs Try.prog 118 [a0] H Q :=
  @fn_go Try.prog mixed 118 Try.f118 C118 [.tmp 2] Try.func118 C118_ok C118_res C118_nm 5 Try.ntmps118 [a0] [a0, .any, .any, .any, .any] H Q h 4 (by kernel_rfl) (by kernel_rfl)

/-- impl.in -/
def C120 : CC :=
 (.seq (.ops [⟨some 6, none, .mv (.const (.bool false))⟩])
 (.seq (.ops [⟨some 7, none, .mv (.tmp 0)⟩,
   ⟨some 8, none, .mv (.tmp 1)⟩,
   ⟨some 9, none, .bin .geq 0 (.tmp 7) (.tmp 8)⟩,
   ⟨some 10, none, .mv (.tmp 9)⟩,
   ⟨some 11, some (10, true), .mv (.tmp 0)⟩,
   ⟨some 12, some (10, true), .mv (.tmp 2)⟩,
   ⟨some 13, some (10, true), .bin .leq 0 (.tmp 11) (.tmp 12)⟩,
   ⟨some 14, none, .pick (.tmp 10) (.tmp 13) (.const (.bool false))⟩,
   ⟨some 6, none, .mv (.tmp 14)⟩])
 .ret))
theorem C120_ok : Try.f120.body.bind (comp Try.prog) = some C120 := by kernel_rfl
theorem C120_res : compRs Try.prog Try.f120.results.toList = some [.tmp 6] := by kernel_rfl
theorem C120_nm : (Try.f120.name == "runtime.NumGoroutine") = false := by kernel_rfl
theorem C120_fn {a0 a1 a2 : AV} {H : Heap} {Q : AV → Heap → Prop} (h : vc Try.prog C120 (vcEnd [.tmp 6] Q) H [a0, a1, a2, .any, .any, .any, .any, .any, .any, .any, .any, .any, .any, .any, .any]) : Runs Try.prog 120 [a0, a1, a2] H Q :=
  @fn_go Try.prog mixed 120 Try.f120 C120 [.tmp 6] Try.func120 C120_ok C120_res C120_nm 15 Try.ntmps120 [a0, a1, a2] [a0, a1, a2, .any, .any, .any, .any, .any, .any, .any, .any, .any, .any, .any, .any] H Q h 12 (by kernel_rfl) (by kernel_rfl)

/-- impl.daysIn -/
def C162 : CC :=
 (.seq (.ops [⟨some 4, none, .mv (.const (.int .i64 0))⟩])
 (.seq (.block 0 (.seq (.ops [⟨some 6, none, .mv (.tmp 1)⟩,
     ⟨some 7, none, .bin .eql 0 (.tmp 6) (.const (.int .i64 2))⟩,
     ⟨some 8, none, .mv (.tmp 7)⟩,
     ⟨some 9, some (8, true), .mv (.tmp 0)⟩,
     ⟨some 10, some (8, true), .bin .rem 0 (.tmp 9) (.const (.int .i64 4))⟩,
     ⟨some 11, some (8, true), .bin .eql 0 (.tmp 10) (.const (.int .i64 0))⟩,
     ⟨some 12, none, .pick (.tmp 8) (.tmp 11) (.const (.bool false))⟩,
     ⟨some 5, none, .mv (.tmp 12)⟩])
   (.cond (.tmp 5) (.seq (.ops [⟨some 4, none, .mv (.const (.int .i64 29))⟩])
    .ret)
   (.seq (.ops [⟨some 14, none, .mv (.tmp 1)⟩,
      ⟨some 15, none, .bin .eql 0 (.tmp 14) (.const (.int .i64 2))⟩,
      ⟨some 13, none, .mv (.tmp 15)⟩])
    (.cond (.tmp 13) (.seq (.ops [⟨some 4, none, .mv (.const (.int .i64 28))⟩])
     .ret)
    (.seq (.ops [⟨some 17, none, .mv (.tmp 1)⟩,
       ⟨some 18, none, .bin .eql 0 (.tmp 17) (.const (.int .i64 4))⟩,
       ⟨some 19, none, .mv (.tmp 18)⟩,
       ⟨some 20, some (19, false), .mv (.tmp 1)⟩,
       ⟨some 21, some (19, false), .bin .eql 0 (.tmp 20) (.const (.int .i64 6))⟩,
       ⟨some 22, none, .pick (.tmp 19) (.const (.bool true)) (.tmp 21)⟩,
       ⟨some 23, none, .mv (.tmp 22)⟩,
       ⟨some 24, some (23, false), .mv (.tmp 1)⟩,
       ⟨some 25, some (23, false), .bin .eql 0 (.tmp 24) (.const (.int .i64 9))⟩,
       ⟨some 26, none, .pick (.tmp 23) (.const (.bool true)) (.tmp 25)⟩,
       ⟨some 27, none, .mv (.tmp 26)⟩,
       ⟨some 28, some (27, false), .mv (.tmp 1)⟩,
       ⟨some 29, some (27, false), .bin .eql 0 (.tmp 28) (.const (.int .i64 11))⟩,
       ⟨some 30, none, .pick (.tmp 27) (.const (.bool true)) (.tmp 29)⟩,
       ⟨some 16, none, .mv (.tmp 30)⟩])
     (.cond (.tmp 16) (.seq (.ops [⟨some 4, none, .mv (.const (.int .i64 30))⟩])
      .ret)
     .skip)))))))
 (.seq (.ops [⟨some 4, none, .mv (.const (.int .i64 31))⟩])
 .ret)))
theorem C162_ok : Try.f162.body.bind (comp Try.prog) = some C162 := by kernel_rfl
theorem C162_res : compRs Try.prog Try.f162.results.toList = some [.tmp 4] := by kernel_rfl
theorem C162_nm : (Try.f162.name == "runtime.NumGoroutine") = false := by kernel_rfl
theorem C162_fn {a0 a1 : AV} {H : Heap} {Q : AV → Heap → Prop} (h : vc Try.prog C162 (vcEnd [.tmp 4] Q) H [a0, a1, .any, .any, .any, .any, .any, .any, .any, .any, .any, .any, .any, .any, .any, .any, .any, .any, .any, .any, .any, .any, .any, .any, .any, .any, .any, .any, .any, .any, .any]) : Runs Try.prog 162 [a0, a1] H Q :=
  @fn_go Try.prog mixed 162 Try.f162 C162 [.tmp 4] Try.func162 C162_ok C162_res C162_nm 31 Try.ntmps162 [a0, a1] [a0, a1, .any, .any, .any, .any, .any, .any, .any, .any, .any, .any, .any, .any, .any, .any, .any, .any, .any, .any, .any, .any, .any, .any, .any, .any, .any, .any, .any, .any, .any] H Q h 29 (by kernel_rfl) (by kernel_rfl)

/-- impl.dayOf -/
def C147 : CC :=
 (.seq (.ops [⟨some 1, none, .box (.tmp 0)⟩,
   ⟨some 2, none, .mv (.const (.int .i64 0))⟩])
 (.seq (.ops [⟨some 6, none, .fa 0 (.tmp 1)⟩,
   ⟨some 7, none, .load false 1 (.tmp 6)⟩,
   ⟨some 8, none, .bin .sub 0 (.tmp 7) (.const (.int .i64 1970))⟩,
   ⟨some 3, none, .mv (.tmp 8)⟩])
 (.seq (.ops [⟨some 9, none, .mv (.tmp 3)⟩,
   ⟨some 10, none, .bin .mul 0 (.const (.int .i64 365)) (.tmp 9)⟩,
   ⟨some 11, none, .mv (.tmp 3)⟩,
   ⟨some 12, none, .bin .add 0 (.tmp 11) (.const (.int .i64 1))⟩,
   ⟨some 13, none, .bin .quo 0 (.tmp 12) (.const (.int .i64 4))⟩,
   ⟨some 14, none, .bin .add 0 (.tmp 10) (.tmp 13)⟩,
   ⟨some 15, none, .fa 2 (.tmp 1)⟩,
   ⟨some 16, none, .load false 1 (.tmp 15)⟩,
   ⟨some 17, none, .bin .add 0 (.tmp 14) (.tmp 16)⟩,
   ⟨some 18, none, .bin .sub 0 (.tmp 17) (.const (.int .i64 1))⟩,
   ⟨some 4, none, .mv (.tmp 18)⟩])
 (.seq (.seq (.ops [⟨some 5, none, .mv (.const (.int .i64 1))⟩])
  (.block 0 (.loop (.seq (.seq (.ops [⟨some 19, none, .mv (.tmp 5)⟩,
       ⟨some 20, none, .fa 1 (.tmp 1)⟩,
       ⟨some 21, none, .load false 1 (.tmp 20)⟩,
       ⟨some 22, none, .bin .lss 0 (.tmp 19) (.tmp 21)⟩])
     (.cond (.tmp 22) .skip
     (.exit 0)))
    (.seq (.block 1 (.ops [⟨some 25, none, .mv (.tmp 4)⟩,
       ⟨some 26, none, .fa 0 (.tmp 1)⟩,
       ⟨some 27, none, .load false 1 (.tmp 26)⟩,
       ⟨some 28, none, .mv (.tmp 5)⟩,
       ⟨some 29, none, .call (.func 162) [(.tmp 27), (.tmp 28)]⟩,
       ⟨some 30, none, .bin .add 0 (.tmp 25) (.tmp 29)⟩,
       ⟨some 4, none, .mv (.tmp 30)⟩]))
    (.ops [⟨some 23, none, .mv (.tmp 5)⟩,
     ⟨some 24, none, .bin .add 0 (.tmp 23) (.const (.int .i64 1))⟩,
     ⟨some 5, none, .mv (.tmp 24)⟩]))))))
 (.seq (.ops [⟨some 31, none, .mv (.tmp 4)⟩,
   ⟨some 2, none, .mv (.tmp 31)⟩])
 .ret)))))
theorem C147_ok : Try.f147.body.bind (comp Try.prog) = some C147 := by kernel_rfl
theorem C147_res : compRs Try.prog Try.f147.results.toList = some [.tmp 2] := by kernel_rfl
theorem C147_nm : (Try.f147.name == "runtime.NumGoroutine") = false := by kernel_rfl
theorem C147_fn {a0 : AV} {H : Heap} {Q : AV → Heap → Prop} (h : vc Try.prog C147 (vcEnd [.tmp 2] Q) H [a0, .any, .any, .any, .any, .any, .any, .any, .any, .any, .any, .any, .any, .any, .any, .any, .any, .any, .any, .any, .any, .any, .any, .any, .any, .any, .any, .any, .any, .any, .any, .any]) : Runs Try.prog 147 [a0] H Q :=
  @fn_go Try.prog mixed 147 Try.f147 C147 [.tmp 2] Try.func147 C147_ok C147_res C147_nm 32 Try.ntmps147 [a0] [a0, .any, .any, .any, .any, .any, .any, .any, .any, .any, .any, .any, .any, .any, .any, .any, .any, .any, .any, .any, .any, .any, .any, .any, .any, .any, .any, .any, .any, .any, .any, .any] H Q h 31 (by kernel_rfl) (by kernel_rfl)

/-- impl.isDay -/
def C119 : CC :=
 (.seq (.ops [⟨some 2, none, .mv (.const (.bool false))⟩])
 (.seq (.ops [⟨some 3, none, .mv (.tmp 0)⟩,
   ⟨some 4, none, .build [.int .i64 0, .int .i64 0, .int .i64 0] [(0, 1, (.const (.int .i64 2069))), (1, 1, (.const (.int .i64 12))), (2, 1, (.const (.int .i64 31)))]⟩,
   ⟨some 5, none, .call (.func 147) [(.tmp 4)]⟩,
   ⟨some 6, none, .call (.func 120) [(.tmp 3), (.const (.int .i64 0)), (.tmp 5)]⟩,
   ⟨some 2, none, .mv (.tmp 6)⟩])
 .ret))
theorem C119_ok : Try.f119.body.bind (comp Try.prog) = some C119 := by kernel_rfl
theorem C119_res : compRs Try.prog Try.f119.results.toList = some [.tmp 2] := by kernel_rfl
theorem C119_nm : (Try.f119.name == "runtime.NumGoroutine") = false := by kernel_rfl
theorem C119_fn {a0 : AV} {H : Heap} {Q : AV → Heap → Prop} (h : vc Try.prog C119 (vcEnd [.tmp 2] Q) H [a0, .any, .any, .any, .any, .any, .any]) : Runs Try.prog 119 [a0] H Q :=
  @fn_go Try.prog mixed 119 Try.f119 C119 [.tmp 2] Try.func119 C119_ok C119_res C119_nm 7 Try.ntmps119 [a0] [a0, .any, .any, .any, .any, .any, .any] H Q h 6 (by kernel_rfl) (by kernel_rfl)

/-- impl.isNotice -/
def C77 : CC :=
 (.seq (.ops [⟨some 1, none, .box (.tmp 0)⟩,
   ⟨some 2, none, .mv (.const (.bool false))⟩])
 (.seq (.seq (.ops [⟨some 4, none, .fa 0 (.tmp 1)⟩,
    ⟨some 5, none, .load false 1 (.tmp 4)⟩,
    ⟨some 6, none, .call (.func 118) [(.tmp 5)]⟩,
    ⟨some 7, none, .not (.tmp 6)⟩,
    ⟨some 8, none, .mv (.tmp 7)⟩,
    ⟨some 9, some (8, false), .fa 1 (.tmp 1)⟩,
    ⟨some 10, some (8, false), .load false 1 (.tmp 9)⟩,
    ⟨some 11, some (8, false), .call (.func 119) [(.tmp 10)]⟩,
    ⟨some 12, some (8, false), .not (.tmp 11)⟩,
    ⟨some 13, none, .pick (.tmp 8) (.const (.bool true)) (.tmp 12)⟩,
    ⟨some 14, none, .mv (.tmp 13)⟩,
    ⟨some 15, some (14, false), .fa 2 (.tmp 1)⟩,
    ⟨some 16, some (14, false), .load false 1 (.tmp 15)⟩,
    ⟨some 17, some (14, false), .call (.func 120) [(.tmp 16), (.const (.int .i64 1)), (.const (.int .i64 100))]⟩,
    ⟨some 18, some (14, false), .not (.tmp 17)⟩,
    ⟨some 19, none, .pick (.tmp 14) (.const (.bool true)) (.tmp 18)⟩])
  (.cond (.tmp 19) (.seq (.ops [⟨some 2, none, .mv (.const (.bool false))⟩])
   .ret)
  .skip))
 (.seq (.ops [⟨some 20, none, .load true 4 (.tmp 1)⟩,
   ⟨some 21, none, .call (.func 87) [(.tmp 20)]⟩,
   ⟨some 22, none, .mv (.tmp 21)⟩,
   ⟨some 23, some (22, false), .fa 3 (.tmp 1)⟩,
   ⟨some 24, some (22, false), .load false 1 (.tmp 23)⟩,
   ⟨some 25, some (22, false), .call (.func 119) [(.tmp 24)]⟩,
   ⟨some 26, some (22, false), .mv (.tmp 25)⟩,
   ⟨some 27, some (26, true), .fa 3 (.tmp 1)⟩,
   ⟨some 28, some (26, true), .load false 1 (.tmp 27)⟩,
   ⟨some 29, some (26, true), .fa 1 (.tmp 1)⟩,
   ⟨some 30, some (26, true), .load false 1 (.tmp 29)⟩,
   ⟨some 31, some (26, true), .bin .geq 0 (.tmp 28) (.tmp 30)⟩,
   ⟨some 32, some (22, false), .pick (.tmp 26) (.tmp 31) (.const (.bool false))⟩,
   ⟨some 33, none, .pick (.tmp 22) (.const (.bool true)) (.tmp 32)⟩,
   ⟨some 3, none, .mv (.tmp 33)⟩])
 (.seq (.ops [⟨some 34, none, .mv (.tmp 3)⟩,
   ⟨some 35, none, .mv (.tmp 34)⟩,
   ⟨some 36, some (35, true), .load true 4 (.tmp 1)⟩,
   ⟨some 37, some (35, true), .call (.func 86) [(.tmp 36)]⟩,
   ⟨some 38, some (35, true), .ia 1 (.tmp 37) (.const (.int .i64 2))⟩,
   ⟨some 39, some (35, true), .load false 1 (.tmp 38)⟩,
   ⟨some 40, some (35, true), .call (.func 119) [(.tmp 39)]⟩,
   ⟨some 41, none, .pick (.tmp 35) (.tmp 40) (.const (.bool false))⟩,
   ⟨some 2, none, .mv (.tmp 41)⟩])
 .ret))))
theorem C77_ok : Try.f77.body.bind (comp Try.prog) = some C77 := by kernel_rfl
theorem C77_res : compRs Try.prog Try.f77.results.toList = some [.tmp 2] := by kernel_rfl
theorem C77_nm : (Try.f77.name == "runtime.NumGoroutine") = false := by kernel_rfl
theorem C77_fn {a0 : AV} {H : Heap} {Q : AV → Heap → Prop} (h : vc Try.prog C77 (vcEnd [.tmp 2] Q) H [a0, .any, .any, .any, .any, .any, .any, .any, .any, .any, .any, .any, .any, .any, .any, .any, .any, .any, .any, .any, .any, .any, .any, .any, .any, .any, .any, .any, .any, .any, .any, .any, .any, .any, .any, .any, .any, .any, .any, .any, .any, .any]) : Runs Try.prog 77 [a0] H Q :=
  @fn_go Try.prog mixed 77 Try.f77 C77 [.tmp 2] Try.func77 C77_ok C77_res C77_nm 42 Try.ntmps77 [a0] [a0, .any, .any, .any, .any, .any, .any, .any, .any, .any, .any, .any, .any, .any, .any, .any, .any, .any, .any, .any, .any, .any, .any, .any, .any, .any, .any, .any, .any, .any, .any, .any, .any, .any, .any, .any, .any, .any, .any, .any, .any, .any] H Q h 41 (by kernel_rfl) (by kernel_rfl)

/-- slices.IsSortedFunc[[]impl.Notice,impl.Notice] -/
def C78 : CC :=
 (.seq (.ops [⟨some 4, none, .mv (.const (.bool false))⟩])
 (.seq (.seq (.ops [⟨some 6, none, .mv (.tmp 0)⟩,
    ⟨some 7, none, .len false (.tmp 6)⟩,
    ⟨some 8, none, .bin .sub 0 (.tmp 7) (.const (.int .i64 1))⟩,
    ⟨some 5, none, .mv (.tmp 8)⟩])
  (.block 0 (.loop (.seq (.seq (.ops [⟨some 9, none, .mv (.tmp 5)⟩,
       ⟨some 10, none, .bin .gtr 0 (.tmp 9) (.const (.int .i64 0))⟩])
     (.cond (.tmp 10) .skip
     (.exit 0)))
    (.seq (.block 1 (.seq (.draw 12 [⟨some 13, none, .mv (.tmp 1)⟩,
        ⟨some 14, none, .mv (.tmp 0)⟩,
        ⟨some 15, none, .mv (.tmp 5)⟩,
        ⟨some 16, none, .ia 4 (.tmp 14) (.tmp 15)⟩,
        ⟨some 17, none, .load true 4 (.tmp 16)⟩,
        ⟨some 18, none, .mv (.tmp 0)⟩,
        ⟨some 19, none, .mv (.tmp 5)⟩,
        ⟨some 20, none, .bin .sub 0 (.tmp 19) (.const (.int .i64 1))⟩,
        ⟨some 21, none, .ia 4 (.tmp 18) (.tmp 20)⟩,
        ⟨some 22, none, .load true 4 (.tmp 21)⟩,
        ⟨some 23, none, .call (.tmp 13) [(.tmp 17), (.tmp 22)]⟩,
        ⟨some 24, none, .bin .lss 0 (.tmp 23) (.const (.int .i64 0))⟩])
      (.cond (.tmp 24) (.seq (.ops [⟨some 4, none, .mv (.const (.bool false))⟩])
       .ret)
      .skip)))
    (.ops [⟨some 11, none, .mv (.tmp 5)⟩,
     ⟨some 12, none, .bin .sub 0 (.tmp 11) (.const (.int .i64 1))⟩,
     ⟨some 5, none, .mv (.tmp 12)⟩]))))))
 (.seq (.ops [⟨some 4, none, .mv (.const (.bool true))⟩])
 .ret)))
theorem C78_ok : Try.f78.body.bind (comp Try.prog) = some C78 := by kernel_rfl
theorem C78_res : compRs Try.prog Try.f78.results.toList = some [.tmp 4] := by kernel_rfl
theorem C78_nm : (Try.f78.name == "runtime.NumGoroutine") = false := by kernel_rfl
theorem C78_fn {a0 a1 : AV} {H : Heap} {Q : AV → Heap → Prop} (h : vc Try.prog C78 (vcEnd [.tmp 4] Q) H [a0, a1, .any, .any, .any, .any, .any, .any, .any, .any, .any, .any, .any, .any, .any, .any, .any, .any, .any, .any, .any, .any, .any, .any, .any]) : Runs Try.prog 78 [a0, a1] H Q :=
  @fn_go Try.prog mixed 78 Try.f78 C78 [.tmp 4] Try.func78 C78_ok C78_res C78_nm 25 Try.ntmps78 [a0, a1] [a0, a1, .any, .any, .any, .any, .any, .any, .any, .any, .any, .any, .any, .any, .any, .any, .any, .any, .any, .any, .any, .any, .any, .any, .any] H Q h 23 (by kernel_rfl) (by kernel_rfl)

/-- impl.IsDiary$1 -/
def C79 : CC :=
 (.seq (.ops [⟨some 2, none, .box (.tmp 0)⟩,
   ⟨some 3, none, .box (.tmp 1)⟩,
   ⟨some 4, none, .mv (.const (.int .i64 0))⟩])
 (.seq (.ops [⟨some 5, none, .fa 1 (.tmp 2)⟩,
   ⟨some 6, none, .load false 1 (.tmp 5)⟩,
   ⟨some 7, none, .fa 1 (.tmp 3)⟩,
   ⟨some 8, none, .load false 1 (.tmp 7)⟩,
   ⟨some 9, none, .bin .sub 0 (.tmp 6) (.tmp 8)⟩,
   ⟨some 4, none, .mv (.tmp 9)⟩])
 .ret))
theorem C79_ok : Try.f79.body.bind (comp Try.prog) = some C79 := by kernel_rfl
theorem C79_res : compRs Try.prog Try.f79.results.toList = some [.tmp 4] := by kernel_rfl
theorem C79_nm : (Try.f79.name == "runtime.NumGoroutine") = false := by kernel_rfl
theorem C79_fn {a0 a1 : AV} {H : Heap} {Q : AV → Heap → Prop} (h : vc Try.prog C79 (vcEnd [.tmp 4] Q) H [a0, a1, .any, .any, .any, .any, .any, .any, .any, .any]) : Runs Try.prog 79 [a0, a1] H Q :=
  @fn_go Try.prog mixed 79 Try.f79 C79 [.tmp 4] Try.func79 C79_ok C79_res C79_nm 10 Try.ntmps79 [a0, a1] [a0, a1, .any, .any, .any, .any, .any, .any, .any, .any] H Q h 8 (by kernel_rfl) (by kernel_rfl)

/-- impl.IsDiary -/
def C18 : CC :=
 (.seq (.ops [⟨some 2, none, .mv (.const (.bool false))⟩])
 (.seq (.seq (.ops [⟨some 3, none, .mv (.tmp 0)⟩,
    ⟨some 4, none, .len false (.tmp 3)⟩,
    ⟨some 5, none, .bin .gtr 0 (.tmp 4) (.const (.int .i64 12))⟩,
    ⟨some 6, none, .mv (.tmp 5)⟩,
    ⟨some 7, some (6, false), .mv (.tmp 0)⟩,
    ⟨some 8, some (6, false), .call (.func 76) [(.tmp 7), (.func 77)]⟩,
    ⟨some 9, some (6, false), .not (.tmp 8)⟩,
    ⟨some 10, none, .pick (.tmp 6) (.const (.bool true)) (.tmp 9)⟩])
  (.cond (.tmp 10) (.seq (.ops [⟨some 2, none, .mv (.const (.bool false))⟩])
   .ret)
  .skip))
 (.seq (.ops [⟨some 11, none, .mv (.tmp 0)⟩,
   ⟨some 12, none, .call (.func 78) [(.tmp 11), (.func 79)]⟩,
   ⟨some 2, none, .mv (.tmp 12)⟩])
 .ret)))
theorem C18_ok : Try.f18.body.bind (comp Try.prog) = some C18 := by kernel_rfl
theorem C18_res : compRs Try.prog Try.f18.results.toList = some [.tmp 2] := by kernel_rfl
theorem C18_nm : (Try.f18.name == "runtime.NumGoroutine") = false := by kernel_rfl
theorem C18_fn {a0 : AV} {H : Heap} {Q : AV → Heap → Prop} (h : vc Try.prog C18 (vcEnd [.tmp 2] Q) H [a0, .any, .any, .any, .any, .any, .any, .any, .any, .any, .any, .any, .any]) : Runs Try.prog 18 [a0] H Q :=
  @fn_go Try.prog mixed 18 Try.f18 C18 [.tmp 2] Try.func18 C18_ok C18_res C18_nm 13 Try.ntmps18 [a0] [a0, .any, .any, .any, .any, .any, .any, .any, .any, .any, .any, .any, .any] H Q h 12 (by kernel_rfl) (by kernel_rfl)

end Go.Proofs.Ytpaflfaokgapgaa
