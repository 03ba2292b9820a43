/- The code of the functions, in the form of our laws; each is the program's own, by the kernel. Written by a program of ours. -/
import Derived.Test.YtbgnlnlgjmipfaaB0
import Derived.KernelRfl
namespace Go.Proofs.Ytbgnlnlgjmipfaa
open Go.Abs

/-- laws.FnPaidSecurities -/
def C9 : CC :=
 (.seq (.ops [⟨some 2, none, .mv (.const (.bool false))⟩])
 (.seq (.seq (.ops [⟨some 26, none, .mv (.tmp 0)⟩,
    ⟨some 27, none, .call (.func 44) [(.tmp 26)]⟩])
  (.cond (.tmp 27) (.seq (.ops [⟨some 2, none, .mv (.const (.bool true))⟩])
   .ret)
  .skip))
 (.seq (.ops [⟨some 29, none, .mv (.tmp 0)⟩,
   ⟨some 30, none, .call (.func 45) [(.tmp 29)]⟩,
   ⟨some 28, none, .mv (.tmp 30)⟩,
   ⟨some 31, none, .ext (.tmp 28) 0⟩,
   ⟨some 32, none, .ext (.tmp 28) 1⟩,
   ⟨some 33, none, .ext (.tmp 28) 2⟩,
   ⟨some 3, none, .mv (.tmp 31)⟩,
   ⟨some 4, none, .mv (.tmp 32)⟩,
   ⟨some 5, none, .mv (.tmp 33)⟩])
 (.seq (.ops [⟨some 35, none, .mv (.tmp 3)⟩,
   ⟨some 36, none, .mv (.tmp 4)⟩,
   ⟨some 37, none, .mv (.tmp 5)⟩,
   ⟨some 38, none, .call (.func 41) [(.tmp 35), (.tmp 36), (.tmp 37)]⟩,
   ⟨some 34, none, .mv (.tmp 38)⟩,
   ⟨some 39, none, .ext (.tmp 34) 0⟩,
   ⟨some 40, none, .ext (.tmp 34) 1⟩,
   ⟨some 6, none, .mv (.tmp 39)⟩,
   ⟨some 7, none, .mv (.tmp 40)⟩])
 (.seq (.ops [⟨some 42, none, .mv (.tmp 3)⟩,
   ⟨some 43, none, .mv (.tmp 4)⟩,
   ⟨some 44, none, .mv (.tmp 5)⟩,
   ⟨some 45, none, .call (.func 40) [(.tmp 42), (.tmp 43), (.tmp 44)]⟩,
   ⟨some 41, none, .mv (.tmp 45)⟩,
   ⟨some 46, none, .ext (.tmp 41) 0⟩,
   ⟨some 47, none, .ext (.tmp 41) 1⟩,
   ⟨some 8, none, .mv (.tmp 46)⟩,
   ⟨some 9, none, .mv (.tmp 47)⟩])
 (.seq (.ops [⟨some 49, none, .mv (.tmp 0)⟩,
   ⟨some 50, none, .call (.func 46) [(.tmp 49)]⟩,
   ⟨some 48, none, .mv (.tmp 50)⟩,
   ⟨some 51, none, .ext (.tmp 48) 0⟩,
   ⟨some 52, none, .ext (.tmp 48) 1⟩,
   ⟨some 10, none, .mv (.tmp 51)⟩,
   ⟨some 11, none, .mv (.tmp 52)⟩])
 (.seq (.ops [⟨some 54, none, .mv (.tmp 10)⟩,
   ⟨some 55, none, .mv (.tmp 11)⟩,
   ⟨some 56, none, .call (.func 31) [(.tmp 54), (.tmp 55)]⟩,
   ⟨some 53, none, .mv (.tmp 56)⟩,
   ⟨some 57, none, .ext (.tmp 53) 0⟩,
   ⟨some 58, none, .ext (.tmp 53) 1⟩,
   ⟨some 12, none, .mv (.tmp 57)⟩,
   ⟨some 13, none, .mv (.tmp 58)⟩])
 (.seq (.ops [⟨some 60, none, .mv (.tmp 10)⟩,
   ⟨some 61, none, .mv (.tmp 11)⟩,
   ⟨some 62, none, .call (.func 29) [(.tmp 60), (.tmp 61)]⟩,
   ⟨some 59, none, .mv (.tmp 62)⟩,
   ⟨some 63, none, .ext (.tmp 59) 0⟩,
   ⟨some 64, none, .ext (.tmp 59) 1⟩,
   ⟨some 14, none, .mv (.tmp 63)⟩,
   ⟨some 15, none, .mv (.tmp 64)⟩])
 (.seq (.ops [⟨some 65, none, .mv (.tmp 0)⟩,
   ⟨some 66, none, .call (.func 47) [(.tmp 65)]⟩,
   ⟨some 16, none, .mv (.tmp 66)⟩])
 (.seq (.ops [⟨some 68, none, .mv (.tmp 16)⟩,
   ⟨some 69, none, .call (.func 23) [(.tmp 68)]⟩,
   ⟨some 67, none, .mv (.tmp 69)⟩,
   ⟨some 70, none, .ext (.tmp 67) 0⟩,
   ⟨some 71, none, .ext (.tmp 67) 1⟩,
   ⟨some 17, none, .mv (.tmp 70)⟩,
   ⟨some 18, none, .mv (.tmp 71)⟩])
 (.seq (.ops [⟨some 73, none, .mv (.tmp 16)⟩,
   ⟨some 74, none, .call (.func 21) [(.tmp 73)]⟩,
   ⟨some 72, none, .mv (.tmp 74)⟩,
   ⟨some 75, none, .ext (.tmp 72) 0⟩,
   ⟨some 76, none, .ext (.tmp 72) 1⟩,
   ⟨some 19, none, .mv (.tmp 75)⟩,
   ⟨some 20, none, .mv (.tmp 76)⟩])
 (.seq (.seq (.ops [⟨some 77, none, .mv (.tmp 7)⟩,
    ⟨some 78, none, .mv (.tmp 9)⟩,
    ⟨some 79, none, .bin .neq 0 (.tmp 77) (.tmp 78)⟩,
    ⟨some 80, none, .mv (.tmp 79)⟩,
    ⟨some 81, some (80, false), .mv (.tmp 6)⟩,
    ⟨some 82, some (80, false), .mv (.tmp 8)⟩,
    ⟨some 83, some (80, false), .call (.func 48) [(.tmp 81), (.tmp 82)]⟩,
    ⟨some 84, some (80, false), .not (.tmp 83)⟩,
    ⟨some 85, none, .pick (.tmp 80) (.const (.bool true)) (.tmp 84)⟩,
    ⟨some 86, none, .mv (.tmp 85)⟩,
    ⟨some 87, some (86, false), .mv (.tmp 13)⟩,
    ⟨some 88, some (86, false), .mv (.tmp 15)⟩,
    ⟨some 89, some (86, false), .bin .neq 0 (.tmp 87) (.tmp 88)⟩,
    ⟨some 90, none, .pick (.tmp 86) (.const (.bool true)) (.tmp 89)⟩,
    ⟨some 91, none, .mv (.tmp 90)⟩,
    ⟨some 92, some (91, false), .mv (.tmp 12)⟩,
    ⟨some 93, some (91, false), .mv (.tmp 14)⟩,
    ⟨some 94, some (91, false), .call (.func 49) [(.tmp 92), (.tmp 93)]⟩,
    ⟨some 95, some (91, false), .not (.tmp 94)⟩,
    ⟨some 96, none, .pick (.tmp 91) (.const (.bool true)) (.tmp 95)⟩,
    ⟨some 97, none, .mv (.tmp 96)⟩,
    ⟨some 98, some (97, false), .mv (.tmp 18)⟩,
    ⟨some 99, some (97, false), .mv (.tmp 20)⟩,
    ⟨some 100, some (97, false), .bin .neq 0 (.tmp 98) (.tmp 99)⟩,
    ⟨some 101, none, .pick (.tmp 97) (.const (.bool true)) (.tmp 100)⟩,
    ⟨some 102, none, .mv (.tmp 101)⟩,
    ⟨some 103, some (102, false), .mv (.tmp 17)⟩,
    ⟨some 104, some (102, false), .mv (.tmp 19)⟩,
    ⟨some 105, some (102, false), .call (.func 48) [(.tmp 103), (.tmp 104)]⟩,
    ⟨some 106, some (102, false), .not (.tmp 105)⟩,
    ⟨some 107, none, .pick (.tmp 102) (.const (.bool true)) (.tmp 106)⟩])
  (.cond (.tmp 107) (.seq (.ops [⟨some 2, none, .mv (.const (.bool false))⟩])
   .ret)
  .skip))
 (.seq (.seq (.ops [⟨some 108, none, .mv (.tmp 13)⟩,
    ⟨some 109, none, .bin .eql 0 (.tmp 108) (.const (.int .i64 0))⟩])
  (.cond (.tmp 109) (.seq (.ops [⟨some 111, none, .mv (.tmp 10)⟩,
     ⟨some 112, none, .call (.func 23) [(.tmp 111)]⟩,
     ⟨some 110, none, .mv (.tmp 112)⟩,
     ⟨some 113, none, .ext (.tmp 110) 0⟩,
     ⟨some 114, none, .ext (.tmp 110) 1⟩,
     ⟨some 21, none, .mv (.tmp 113)⟩,
     ⟨some 22, none, .mv (.tmp 114)⟩])
   (.seq (.ops [⟨some 116, none, .mv (.tmp 12)⟩,
     ⟨some 117, none, .call (.func 23) [(.tmp 116)]⟩,
     ⟨some 115, none, .mv (.tmp 117)⟩,
     ⟨some 118, none, .ext (.tmp 115) 0⟩,
     ⟨some 119, none, .ext (.tmp 115) 1⟩,
     ⟨some 23, none, .mv (.tmp 118)⟩,
     ⟨some 24, none, .mv (.tmp 119)⟩])
   (.seq (.ops [⟨some 120, none, .mv (.tmp 22)⟩,
     ⟨some 121, none, .bin .neq 0 (.tmp 120) (.const (.int .i64 0))⟩,
     ⟨some 122, none, .mv (.tmp 121)⟩,
     ⟨some 123, some (122, false), .mv (.tmp 24)⟩,
     ⟨some 124, some (122, false), .bin .neq 0 (.tmp 123) (.const (.int .i64 0))⟩,
     ⟨some 125, none, .pick (.tmp 122) (.const (.bool true)) (.tmp 124)⟩,
     ⟨some 126, none, .mv (.tmp 125)⟩,
     ⟨some 127, some (126, false), .mv (.tmp 21)⟩,
     ⟨some 128, some (126, false), .call (.func 50) [(.tmp 127)]⟩,
     ⟨some 129, some (126, false), .mv (.tmp 23)⟩,
     ⟨some 130, some (126, false), .call (.func 50) [(.tmp 129)]⟩,
     ⟨some 131, some (126, false), .mv (.tmp 11)⟩,
     ⟨some 132, some (126, false), .call (.func 50) [(.tmp 131)]⟩,
     ⟨some 133, some (126, false), .bin .add 0 (.tmp 130) (.tmp 132)⟩,
     ⟨some 134, some (126, false), .bin .neq 0 (.tmp 128) (.tmp 133)⟩,
     ⟨some 135, none, .pick (.tmp 126) (.const (.bool true)) (.tmp 134)⟩])
   (.cond (.tmp 135) (.seq (.ops [⟨some 2, none, .mv (.const (.bool false))⟩])
    .ret)
   .skip))))
  .skip))
 (.seq (.seq (.ops [⟨some 136, none, .mv (.tmp 7)⟩,
    ⟨some 137, none, .bin .neq 0 (.tmp 136) (.const (.int .i64 0))⟩])
  (.cond (.tmp 137) (.seq (.ops [⟨some 2, none, .mv (.const (.bool true))⟩])
   .ret)
  .skip))
 (.seq (.seq (.ops [⟨some 25, none, .mv (.const (.int .i64 0))⟩])
  (.block 0 (.loop (.seq (.seq (.ops [⟨some 138, none, .mv (.tmp 25)⟩,
       ⟨some 139, none, .mv (.tmp 6)⟩,
       ⟨some 140, none, .len false (.tmp 139)⟩,
       ⟨some 141, none, .bin .lss 0 (.tmp 138) (.tmp 140)⟩])
     (.cond (.tmp 141) .skip
     (.exit 0)))
    (.seq (.block 1 (.seq (.draw 33 [⟨some 144, none, .mv (.tmp 6)⟩,
        ⟨some 145, none, .mv (.tmp 25)⟩,
        ⟨some 146, none, .ia 1 (.tmp 144) (.tmp 145)⟩,
        ⟨some 147, none, .load false 1 (.tmp 146)⟩,
        ⟨some 148, none, .bin .lss 0 (.tmp 147) (.const (.int .i64 0))⟩,
        ⟨some 149, none, .mv (.tmp 148)⟩,
        ⟨some 150, some (149, false), .mv (.tmp 6)⟩,
        ⟨some 151, some (149, false), .mv (.tmp 25)⟩,
        ⟨some 152, some (149, false), .ia 1 (.tmp 150) (.tmp 151)⟩,
        ⟨some 153, some (149, false), .load false 1 (.tmp 152)⟩,
        ⟨some 154, some (149, false), .mv (.tmp 3)⟩,
        ⟨some 155, some (149, false), .mv (.tmp 25)⟩,
        ⟨some 156, some (149, false), .ia 3 (.tmp 154) (.tmp 155)⟩,
        ⟨some 157, some (149, false), .fa 2 (.tmp 156)⟩,
        ⟨some 158, some (149, false), .load false 1 (.tmp 157)⟩,
        ⟨some 159, some (149, false), .bin .gtr 0 (.tmp 153) (.tmp 158)⟩,
        ⟨some 160, none, .pick (.tmp 149) (.const (.bool true)) (.tmp 159)⟩,
        ⟨some 161, none, .mv (.tmp 160)⟩,
        ⟨some 162, some (161, false), .mv (.tmp 6)⟩,
        ⟨some 163, some (161, false), .mv (.tmp 25)⟩,
        ⟨some 164, some (161, false), .ia 1 (.tmp 162) (.tmp 163)⟩,
        ⟨some 165, some (161, false), .load false 1 (.tmp 164)⟩,
        ⟨some 166, some (161, false), .bin .gtr 0 (.tmp 165) (.const (.int .i64 0))⟩,
        ⟨some 167, some (161, false), .mv (.tmp 166)⟩,
        ⟨some 168, some (167, true), .mv (.tmp 3)⟩,
        ⟨some 169, some (167, true), .mv (.tmp 25)⟩,
        ⟨some 170, some (167, true), .ia 3 (.tmp 168) (.tmp 169)⟩,
        ⟨some 171, some (167, true), .fa 0 (.tmp 170)⟩,
        ⟨some 172, some (167, true), .load false 1 (.tmp 171)⟩,
        ⟨some 173, some (167, true), .mv (.tmp 4)⟩,
        ⟨some 174, some (167, true), .bin .neq 0 (.tmp 172) (.tmp 173)⟩,
        ⟨some 175, some (161, false), .pick (.tmp 167) (.tmp 174) (.const (.bool false))⟩,
        ⟨some 176, none, .pick (.tmp 161) (.const (.bool true)) (.tmp 175)⟩])
      (.cond (.tmp 176) (.seq (.ops [⟨some 2, none, .mv (.const (.bool false))⟩])
       .ret)
      .skip)))
    (.ops [⟨some 142, none, .mv (.tmp 25)⟩,
     ⟨some 143, none, .bin .add 0 (.tmp 142) (.const (.int .i64 1))⟩,
     ⟨some 25, none, .mv (.tmp 143)⟩]))))))
 (.seq (.ops [⟨some 177, none, .mv (.tmp 6)⟩,
   ⟨some 178, none, .call (.func 50) [(.tmp 177)]⟩,
   ⟨some 179, none, .mv (.tmp 5)⟩,
   ⟨some 180, none, .bin .eql 0 (.tmp 178) (.tmp 179)⟩,
   ⟨some 2, none, .mv (.tmp 180)⟩])
 .ret))))))))))))))))
theorem C9_ok : Try.f9.body.bind (comp Try.prog) = some C9 := by kernel_rfl
theorem C9_res : compRs Try.prog Try.f9.results.toList = some [.tmp 2] := by kernel_rfl
theorem C9_nm : (Try.f9.name == "runtime.NumGoroutine") = false := by kernel_rfl
theorem C9_fn {a0 : AV} {H : Heap} {Q : AV → Heap → Prop} (h : vc Try.prog C9 (vcEnd [.tmp 2] Q) H [a0, .any, .any, .any, .any, .any, .any, .any, .any, .any, .any, .any, .any, .any, .any, .any, .any, .any, .any, .any, .any, .any, .any, .any, .any, .any, .any, .any, .any, .any, .any, .any, .any, .any, .any, .any, .any, .any, .any, .any, .any, .any, .any, .any, .any, .any, .any, .any, .any, .any, .any, .any, .any, .any, .any, .any, .any, .any, .any, .any, .any, .any, .any, .any, .any, .any, .any, .any, .any, .any, .any, .any, .any, .any, .any, .any, .any, .any, .any, .any, .any, .any, .any, .any, .any, .any, .any, .any, .any, .any, .any, .any, .any, .any, .any, .any, .any, .any, .any, .any, .any, .any, .any, .any, .any, .any, .any, .any, .any, .any, .any, .any, .any, .any, .any, .any, .any, .any, .any, .any, .any, .any, .any, .any, .any, .any, .any, .any, .any, .any, .any, .any, .any, .any, .any, .any, .any, .any, .any, .any, .any, .any, .any, .any, .any, .any, .any, .any, .any, .any, .any, .any, .any, .any, .any, .any, .any, .any, .any, .any, .any, .any, .any, .any, .any, .any, .any, .any, .any, .any, .any, .any, .any, .any, .any, .any, .any, .any, .any, .any, .any]) : Runs Try.prog 9 [a0] H Q :=
  @fn_go Try.prog mixed 9 Try.f9 C9 [.tmp 2] Try.func9 C9_ok C9_res C9_nm 181 Try.ntmps9 [a0] [a0, .any, .any, .any, .any, .any, .any, .any, .any, .any, .any, .any, .any, .any, .any, .any, .any, .any, .any, .any, .any, .any, .any, .any, .any, .any, .any, .any, .any, .any, .any, .any, .any, .any, .any, .any, .any, .any, .any, .any, .any, .any, .any, .any, .any, .any, .any, .any, .any, .any, .any, .any, .any, .any, .any, .any, .any, .any, .any, .any, .any, .any, .any, .any, .any, .any, .any, .any, .any, .any, .any, .any, .any, .any, .any, .any, .any, .any, .any, .any, .any, .any, .any, .any, .any, .any, .any, .any, .any, .any, .any, .any, .any, .any, .any, .any, .any, .any, .any, .any, .any, .any, .any, .any, .any, .any, .any, .any, .any, .any, .any, .any, .any, .any, .any, .any, .any, .any, .any, .any, .any, .any, .any, .any, .any, .any, .any, .any, .any, .any, .any, .any, .any, .any, .any, .any, .any, .any, .any, .any, .any, .any, .any, .any, .any, .any, .any, .any, .any, .any, .any, .any, .any, .any, .any, .any, .any, .any, .any, .any, .any, .any, .any, .any, .any, .any, .any, .any, .any, .any, .any, .any, .any, .any, .any, .any, .any, .any, .any, .any, .any] H Q h 180 (by kernel_rfl) (by kernel_rfl)

/-- spec.l22Find -/
def C125 : CC :=
 (.seq (.ops [⟨some 4, none, .mv (.const (.int .i64 0))⟩])
 (.seq (.seq (.ops [⟨some 5, none, .mv (.const (.int .i64 0))⟩])
  (.block 0 (.loop (.seq (.seq (.ops [⟨some 6, none, .mv (.tmp 5)⟩,
       ⟨some 7, none, .mv (.tmp 0)⟩,
       ⟨some 8, none, .len false (.tmp 7)⟩,
       ⟨some 9, none, .bin .lss 0 (.tmp 6) (.tmp 8)⟩])
     (.cond (.tmp 9) .skip
     (.exit 0)))
    (.seq (.block 1 (.seq (.ops [⟨some 12, none, .mv (.tmp 0)⟩,
        ⟨some 13, none, .mv (.tmp 5)⟩,
        ⟨some 14, none, .ia 5 (.tmp 12) (.tmp 13)⟩,
        ⟨some 15, none, .fa 0 (.tmp 14)⟩,
        ⟨some 16, none, .load false 1 (.tmp 15)⟩,
        ⟨some 17, none, .mv (.tmp 1)⟩,
        ⟨some 18, none, .bin .eql 0 (.tmp 16) (.tmp 17)⟩])
      (.cond (.tmp 18) (.seq (.ops [⟨some 19, none, .mv (.tmp 5)⟩,
         ⟨some 4, none, .mv (.tmp 19)⟩])
       .ret)
      .skip)))
    (.ops [⟨some 10, none, .mv (.tmp 5)⟩,
     ⟨some 11, none, .bin .add 0 (.tmp 10) (.const (.int .i64 1))⟩,
     ⟨some 5, none, .mv (.tmp 11)⟩]))))))
 (.seq (.ops [⟨some 4, none, .mv (.const (.int .i64 (-1)))⟩])
 .ret)))
theorem C125_ok : Try.f125.body.bind (comp Try.prog) = some C125 := by kernel_rfl
theorem C125_res : compRs Try.prog Try.f125.results.toList = some [.tmp 4] := by kernel_rfl
theorem C125_nm : (Try.f125.name == "runtime.NumGoroutine") = false := by kernel_rfl
theorem C125_fn {a0 a1 : AV} {H : Heap} {Q : AV → Heap → Prop} (h : vc Try.prog C125 (vcEnd [.tmp 4] Q) H [a0, a1, .any, .any, .any, .any, .any, .any, .any, .any, .any, .any, .any, .any, .any, .any, .any, .any, .any, .any]) : Runs Try.prog 125 [a0, a1] H Q :=
  @fn_go Try.prog mixed 125 Try.f125 C125 [.tmp 4] Try.func125 C125_ok C125_res C125_nm 20 Try.ntmps125 [a0, a1] [a0, a1, .any, .any, .any, .any, .any, .any, .any, .any, .any, .any, .any, .any, .any, .any, .any, .any, .any, .any] H Q h 18 (by kernel_rfl) (by kernel_rfl)

/-- spec.AddClaim -/
def C71 : CC :=
 (.seq (.ops [⟨some 3, none, .box (.tmp 1)⟩,
   ⟨some 4, none, .mv (.const (.slice none 0 0))⟩,
   ⟨some 5, none, .mv (.const (.int .i64 0))⟩])
 (.seq (.seq (.ops [⟨some 9, none, .mv (.tmp 0)⟩,
    ⟨some 10, none, .call (.func 68) [(.tmp 9)]⟩,
    ⟨some 11, none, .not (.tmp 10)⟩])
  (.cond (.tmp 11) (.seq (.ops [⟨some 4, none, .mv (.const (.slice none 0 0))⟩,
     ⟨some 5, none, .mv (.const (.int .i64 1))⟩])
   .ret)
  .skip))
 (.seq (.ops [⟨some 12, none, .lit 5 []⟩,
   ⟨some 13, none, .mv (.tmp 0)⟩,
   ⟨some 14, none, .app 5 48 (.tmp 12) (.tmp 13)⟩,
   ⟨some 6, none, .mv (.tmp 14)⟩])
 (.seq (.ops [⟨some 15, none, .mv (.tmp 0)⟩,
   ⟨some 16, none, .fa 0 (.tmp 3)⟩,
   ⟨some 17, none, .load false 1 (.tmp 16)⟩,
   ⟨some 18, none, .call (.func 125) [(.tmp 15), (.tmp 17)]⟩,
   ⟨some 7, none, .mv (.tmp 18)⟩])
 (.seq (.seq (.draw 22 [⟨some 19, none, .mv (.tmp 7)⟩,
    ⟨some 20, none, .bin .geq 0 (.tmp 19) (.const (.int .i64 0))⟩,
    ⟨some 21, none, .mv (.tmp 20)⟩,
    ⟨some 22, some (21, true), .mv (.tmp 0)⟩,
    ⟨some 23, some (21, true), .mv (.tmp 7)⟩,
    ⟨some 24, some (21, true), .ia 5 (.tmp 22) (.tmp 23)⟩,
    ⟨some 25, some (21, true), .fa 3 (.tmp 24)⟩,
    ⟨some 26, some (21, true), .load false 1 (.tmp 25)⟩,
    ⟨some 27, some (21, true), .fa 3 (.tmp 3)⟩,
    ⟨some 28, some (21, true), .load false 1 (.tmp 27)⟩,
    ⟨some 29, some (21, true), .bin .eql 0 (.tmp 26) (.tmp 28)⟩,
    ⟨some 30, none, .pick (.tmp 21) (.tmp 29) (.const (.bool false))⟩,
    ⟨some 31, none, .mv (.tmp 30)⟩,
    ⟨some 32, some (31, true), .mv (.tmp 0)⟩,
    ⟨some 33, some (31, true), .mv (.tmp 7)⟩,
    ⟨some 34, some (31, true), .ia 5 (.tmp 32) (.tmp 33)⟩,
    ⟨some 35, some (31, true), .fa 2 (.tmp 34)⟩,
    ⟨some 36, some (31, true), .load false 1 (.tmp 35)⟩,
    ⟨some 37, some (31, true), .fa 2 (.tmp 3)⟩,
    ⟨some 38, some (31, true), .load false 1 (.tmp 37)⟩,
    ⟨some 39, some (31, true), .bin .eql 0 (.tmp 36) (.tmp 38)⟩,
    ⟨some 40, none, .pick (.tmp 31) (.tmp 39) (.const (.bool false))⟩])
  (.cond (.tmp 40) (.seq (.seq (.ops [⟨some 41, none, .fa 1 (.tmp 3)⟩,
      ⟨some 42, none, .load false 1 (.tmp 41)⟩,
      ⟨some 43, none, .call (.func 86) [(.tmp 42), (.const (.int .i64 0)), (.const (.int .i64 1000))]⟩,
      ⟨some 44, none, .not (.tmp 43)⟩,
      ⟨some 45, none, .mv (.tmp 44)⟩,
      ⟨some 46, some (45, false), .fa 4 (.tmp 3)⟩,
      ⟨some 47, some (45, false), .load false 1 (.tmp 46)⟩,
      ⟨some 48, some (45, false), .call (.func 98) [(.tmp 47)]⟩,
      ⟨some 49, some (45, false), .not (.tmp 48)⟩,
      ⟨some 50, none, .pick (.tmp 45) (.const (.bool true)) (.tmp 49)⟩])
    (.cond (.tmp 50) (.seq (.ops [⟨some 4, none, .mv (.const (.slice none 0 0))⟩,
       ⟨some 5, none, .mv (.const (.int .i64 5))⟩])
     .ret)
    .skip))
   (.seq (.draw 13 [⟨some 51, none, .mv (.tmp 6)⟩,
     ⟨some 52, none, .mv (.tmp 7)⟩,
     ⟨some 53, none, .mv (.tmp 6)⟩,
     ⟨some 54, none, .mv (.tmp 7)⟩,
     ⟨some 55, none, .ia 5 (.tmp 53) (.tmp 54)⟩,
     ⟨some 56, none, .fa 1 (.tmp 55)⟩,
     ⟨some 57, none, .load false 1 (.tmp 56)⟩,
     ⟨some 58, none, .fa 1 (.tmp 3)⟩,
     ⟨some 59, none, .load false 1 (.tmp 58)⟩,
     ⟨some 60, none, .bin .add 0 (.tmp 57) (.tmp 59)⟩,
     ⟨some 61, none, .ia 5 (.tmp 51) (.tmp 52)⟩,
     ⟨some 62, none, .fa 1 (.tmp 61)⟩,
     ⟨none, none, .store 1 (.tmp 62) (.tmp 60)⟩])
   (.draw 13 [⟨some 63, none, .mv (.tmp 6)⟩,
    ⟨some 64, none, .mv (.tmp 7)⟩,
    ⟨some 65, none, .mv (.tmp 6)⟩,
    ⟨some 66, none, .mv (.tmp 7)⟩,
    ⟨some 67, none, .ia 5 (.tmp 65) (.tmp 66)⟩,
    ⟨some 68, none, .fa 4 (.tmp 67)⟩,
    ⟨some 69, none, .load false 1 (.tmp 68)⟩,
    ⟨some 70, none, .fa 4 (.tmp 3)⟩,
    ⟨some 71, none, .load false 1 (.tmp 70)⟩,
    ⟨some 72, none, .bin .add 0 (.tmp 69) (.tmp 71)⟩,
    ⟨some 73, none, .ia 5 (.tmp 63) (.tmp 64)⟩,
    ⟨some 74, none, .fa 4 (.tmp 73)⟩,
    ⟨none, none, .store 1 (.tmp 74) (.tmp 72)⟩])))
  (.seq (.ops [⟨some 8, none, .mv (.const (.int .i64 0))⟩])
   (.seq (.block 0 (.loop (.seq (.seq (.draw 14 [⟨some 75, none, .mv (.tmp 8)⟩,
         ⟨some 76, none, .mv (.tmp 0)⟩,
         ⟨some 77, none, .len false (.tmp 76)⟩,
         ⟨some 78, none, .bin .lss 0 (.tmp 75) (.tmp 77)⟩,
         ⟨some 79, none, .mv (.tmp 78)⟩,
         ⟨some 80, some (79, true), .mv (.tmp 0)⟩,
         ⟨some 81, some (79, true), .mv (.tmp 8)⟩,
         ⟨some 82, some (79, true), .ia 5 (.tmp 80) (.tmp 81)⟩,
         ⟨some 83, some (79, true), .fa 0 (.tmp 82)⟩,
         ⟨some 84, some (79, true), .load false 1 (.tmp 83)⟩,
         ⟨some 85, some (79, true), .fa 0 (.tmp 3)⟩,
         ⟨some 86, some (79, true), .load false 1 (.tmp 85)⟩,
         ⟨some 87, some (79, true), .bin .lss 0 (.tmp 84) (.tmp 86)⟩,
         ⟨some 88, none, .pick (.tmp 79) (.tmp 87) (.const (.bool false))⟩])
       (.cond (.tmp 88) .skip
       (.exit 0)))
      (.block 1 (.ops [⟨some 89, none, .mv (.tmp 8)⟩,
        ⟨some 90, none, .bin .add 0 (.tmp 89) (.const (.int .i64 1))⟩,
        ⟨some 8, none, .mv (.tmp 90)⟩])))))
   (.draw 12 [⟨some 91, none, .lit 5 []⟩,
    ⟨some 92, none, .mv (.tmp 0)⟩,
    ⟨some 93, none, .mv (.tmp 8)⟩,
    ⟨some 94, none, .slc 5 (.tmp 92) none (some (.tmp 93))⟩,
    ⟨some 95, none, .app 5 48 (.tmp 91) (.tmp 94)⟩,
    ⟨some 96, none, .load true 5 (.tmp 3)⟩,
    ⟨some 97, none, .lit 5 [(.tmp 96)]⟩,
    ⟨some 98, none, .app 5 48 (.tmp 95) (.tmp 97)⟩,
    ⟨some 99, none, .mv (.tmp 0)⟩,
    ⟨some 100, none, .mv (.tmp 8)⟩,
    ⟨some 101, none, .slc 5 (.tmp 99) (some (.tmp 100)) none⟩,
    ⟨some 102, none, .app 5 48 (.tmp 98) (.tmp 101)⟩,
    ⟨some 6, none, .mv (.tmp 102)⟩])))))
 (.seq (.seq (.ops [⟨some 103, none, .mv (.tmp 6)⟩,
    ⟨some 104, none, .call (.func 68) [(.tmp 103)]⟩,
    ⟨some 105, none, .not (.tmp 104)⟩])
  (.cond (.tmp 105) (.seq (.ops [⟨some 4, none, .mv (.const (.slice none 0 0))⟩,
     ⟨some 5, none, .mv (.const (.int .i64 5))⟩])
   .ret)
  .skip))
 (.seq (.ops [⟨some 106, none, .mv (.tmp 6)⟩,
   ⟨some 4, none, .mv (.tmp 106)⟩,
   ⟨some 5, none, .mv (.const (.int .i64 0))⟩])
 .ret)))))))
theorem C71_ok : Try.f71.body.bind (comp Try.prog) = some C71 := by kernel_rfl
theorem C71_res : compRs Try.prog Try.f71.results.toList = some [.tmp 4, .tmp 5] := by kernel_rfl
theorem C71_nm : (Try.f71.name == "runtime.NumGoroutine") = false := by kernel_rfl
theorem C71_fn {a0 a1 : AV} {H : Heap} {Q : AV → Heap → Prop} (h : vc Try.prog C71 (vcEnd [.tmp 4, .tmp 5] Q) H [a0, a1, .any, .any, .any, .any, .any, .any, .any, .any, .any, .any, .any, .any, .any, .any, .any, .any, .any, .any, .any, .any, .any, .any, .any, .any, .any, .any, .any, .any, .any, .any, .any, .any, .any, .any, .any, .any, .any, .any, .any, .any, .any, .any, .any, .any, .any, .any, .any, .any, .any, .any, .any, .any, .any, .any, .any, .any, .any, .any, .any, .any, .any, .any, .any, .any, .any, .any, .any, .any, .any, .any, .any, .any, .any, .any, .any, .any, .any, .any, .any, .any, .any, .any, .any, .any, .any, .any, .any, .any, .any, .any, .any, .any, .any, .any, .any, .any, .any, .any, .any, .any, .any, .any, .any, .any, .any]) : Runs Try.prog 71 [a0, a1] H Q :=
  @fn_go Try.prog mixed 71 Try.f71 C71 [.tmp 4, .tmp 5] Try.func71 C71_ok C71_res C71_nm 107 Try.ntmps71 [a0, a1] [a0, a1, .any, .any, .any, .any, .any, .any, .any, .any, .any, .any, .any, .any, .any, .any, .any, .any, .any, .any, .any, .any, .any, .any, .any, .any, .any, .any, .any, .any, .any, .any, .any, .any, .any, .any, .any, .any, .any, .any, .any, .any, .any, .any, .any, .any, .any, .any, .any, .any, .any, .any, .any, .any, .any, .any, .any, .any, .any, .any, .any, .any, .any, .any, .any, .any, .any, .any, .any, .any, .any, .any, .any, .any, .any, .any, .any, .any, .any, .any, .any, .any, .any, .any, .any, .any, .any, .any, .any, .any, .any, .any, .any, .any, .any, .any, .any, .any, .any, .any, .any, .any, .any, .any, .any, .any, .any] H Q h 105 (by kernel_rfl) (by kernel_rfl)

/-- spec.l22DrawClaim -/
def C134 : CC :=
 (.seq (.ops [⟨some 2, none, .alloc [.string ⟨#[]⟩, .int .i64 0, .int .i64 0, .int .i64 0, .int .i64 0]⟩])
 (.seq (.draw 17 [⟨some 4, none, .lit 1 [(.const (.string ⟨#[115, 109, 105, 116]⟩)), (.const (.string ⟨#[116, 117, 103]⟩)), (.const (.string ⟨#[119, 111, 108, 102]⟩)), (.const (.string ⟨#[122, 119, 97, 114, 116]⟩))]⟩,
   ⟨some 5, none, .mv (.tmp 0)⟩,
   ⟨some 6, none, .call (.func 112) [(.tmp 5), (.const (.int .i64 4))]⟩,
   ⟨some 7, none, .ia 1 (.tmp 4) (.tmp 6)⟩,
   ⟨some 8, none, .load false 1 (.tmp 7)⟩,
   ⟨some 9, none, .mv (.tmp 0)⟩,
   ⟨some 10, none, .call (.func 112) [(.tmp 9), (.const (.int .i64 100))]⟩,
   ⟨some 11, none, .mv (.tmp 0)⟩,
   ⟨some 12, none, .call (.func 112) [(.tmp 11), (.const (.int .i64 12))]⟩,
   ⟨some 13, none, .bin .add 0 (.const (.int .i64 1)) (.tmp 12)⟩,
   ⟨some 14, none, .mv (.tmp 0)⟩,
   ⟨some 15, none, .call (.func 112) [(.tmp 14), (.const (.int .i64 5))]⟩,
   ⟨some 16, none, .bin .add 0 (.const (.int .i64 1)) (.tmp 15)⟩,
   ⟨some 17, none, .mv (.tmp 0)⟩,
   ⟨some 18, none, .call (.func 136) [(.tmp 17)]⟩,
   ⟨some 19, none, .build [.string ⟨#[]⟩, .int .i64 0, .int .i64 0, .int .i64 0, .int .i64 0] [(0, 1, (.tmp 8)), (1, 1, (.tmp 10)), (2, 1, (.tmp 13)), (3, 1, (.tmp 16)), (4, 1, (.tmp 18))]⟩,
   ⟨some 3, none, .alloc [.string ⟨#[]⟩, .int .i64 0, .int .i64 0, .int .i64 0, .int .i64 0]⟩,
   ⟨none, none, .store 5 (.tmp 3) (.tmp 19)⟩])
 (.seq (.seq (.ops [⟨some 20, none, .mv (.tmp 0)⟩,
    ⟨some 21, none, .call (.func 112) [(.tmp 20), (.const (.int .i64 24))]⟩])
  (.block 0 (.seq (.ops [⟨some 23, none, .bin .eql 0 (.tmp 21) (.const (.int .i64 0))⟩,
     ⟨some 22, none, .mv (.tmp 23)⟩])
   (.cond (.tmp 22) (.ops [⟨some 24, none, .mv (.tmp 0)⟩,
     ⟨some 25, none, .lit 1 [(.const (.int .i64 0)), (.const (.int .i64 1000)), (.const (.int .i64 1001)), (.const (.int .i64 (-1)))]⟩,
     ⟨some 26, none, .call (.func 114) [(.tmp 24), (.tmp 25)]⟩,
     ⟨some 27, none, .fa 1 (.tmp 3)⟩,
     ⟨none, none, .store 1 (.tmp 27) (.tmp 26)⟩])
   (.seq (.ops [⟨some 29, none, .bin .eql 0 (.tmp 21) (.const (.int .i64 1))⟩,
      ⟨some 28, none, .mv (.tmp 29)⟩])
    (.cond (.tmp 28) (.ops [⟨some 30, none, .mv (.tmp 0)⟩,
      ⟨some 31, none, .lit 1 [(.const (.int .i64 0)), (.const (.int .i64 6))]⟩,
      ⟨some 32, none, .call (.func 114) [(.tmp 30), (.tmp 31)]⟩,
      ⟨some 33, none, .fa 3 (.tmp 3)⟩,
      ⟨none, none, .store 1 (.tmp 33) (.tmp 32)⟩])
    (.seq (.ops [⟨some 35, none, .bin .eql 0 (.tmp 21) (.const (.int .i64 2))⟩,
       ⟨some 34, none, .mv (.tmp 35)⟩])
     (.cond (.tmp 34) (.ops [⟨some 36, none, .mv (.tmp 0)⟩,
       ⟨some 37, none, .call (.func 113) [(.tmp 36)]⟩,
       ⟨some 38, none, .fa 4 (.tmp 3)⟩,
       ⟨none, none, .store 1 (.tmp 38) (.tmp 37)⟩])
     (.seq (.ops [⟨some 40, none, .bin .eql 0 (.tmp 21) (.const (.int .i64 3))⟩,
        ⟨some 39, none, .mv (.tmp 40)⟩])
      (.cond (.tmp 39) (.ops [⟨some 41, none, .mv (.tmp 0)⟩,
        ⟨some 42, none, .call (.func 148) [(.tmp 41)]⟩,
        ⟨some 43, none, .fa 0 (.tmp 3)⟩,
        ⟨none, none, .store 1 (.tmp 43) (.tmp 42)⟩])
      .skip))))))))))
 (.seq (.ops [⟨some 44, none, .load true 5 (.tmp 3)⟩,
   ⟨none, none, .store 5 (.tmp 2) (.tmp 44)⟩])
 .ret))))
theorem C134_ok : Try.f134.body.bind (comp Try.prog) = some C134 := by kernel_rfl
theorem C134_res : compRs Try.prog Try.f134.results.toList = some [.cell true 5 2] := by kernel_rfl
theorem C134_nm : (Try.f134.name == "runtime.NumGoroutine") = false := by kernel_rfl
theorem C134_fn {a0 : AV} {H : Heap} {Q : AV → Heap → Prop} (h : vc Try.prog C134 (vcEnd [.cell true 5 2] Q) H [a0, .any, .any, .any, .any, .any, .any, .any, .any, .any, .any, .any, .any, .any, .any, .any, .any, .any, .any, .any, .any, .any, .any, .any, .any, .any, .any, .any, .any, .any, .any, .any, .any, .any, .any, .any, .any, .any, .any, .any, .any, .any, .any, .any, .any]) : Runs Try.prog 134 [a0] H Q :=
  @fn_go Try.prog mixed 134 Try.f134 C134 [.cell true 5 2] Try.func134 C134_ok C134_res C134_nm 45 Try.ntmps134 [a0] [a0, .any, .any, .any, .any, .any, .any, .any, .any, .any, .any, .any, .any, .any, .any, .any, .any, .any, .any, .any, .any, .any, .any, .any, .any, .any, .any, .any, .any, .any, .any, .any, .any, .any, .any, .any, .any, .any, .any, .any, .any, .any, .any, .any, .any] H Q h 44 (by kernel_rfl) (by kernel_rfl)

/-- spec.l22Draw -/
def C122 : CC :=
 (.seq (.ops [⟨some 2, none, .mv (.const (.slice none 0 0))⟩])
 (.seq (.ops [⟨some 9, none, .lit 5 []⟩,
   ⟨some 3, none, .mv (.tmp 9)⟩])
 (.seq (.seq (.ops [⟨some 10, none, .mv (.tmp 0)⟩,
    ⟨some 11, none, .call (.func 112) [(.tmp 10), (.const (.int .i64 6))]⟩,
    ⟨some 4, none, .mv (.tmp 11)⟩])
  (.block 0 (.loop (.seq (.seq (.ops [⟨some 12, none, .mv (.tmp 4)⟩,
       ⟨some 13, none, .bin .gtr 0 (.tmp 12) (.const (.int .i64 0))⟩])
     (.cond (.tmp 13) .skip
     (.exit 0)))
    (.seq (.block 1 (.seq (.ops [⟨some 17, none, .mv (.tmp 3)⟩,
        ⟨some 18, none, .mv (.tmp 0)⟩,
        ⟨some 19, none, .call (.func 134) [(.tmp 18)]⟩,
        ⟨some 20, none, .call (.func 71) [(.tmp 17), (.tmp 19)]⟩,
        ⟨some 16, none, .mv (.tmp 20)⟩,
        ⟨some 21, none, .ext (.tmp 16) 0⟩,
        ⟨some 22, none, .ext (.tmp 16) 1⟩,
        ⟨some 5, none, .mv (.tmp 21)⟩,
        ⟨some 6, none, .mv (.tmp 22)⟩])
      (.seq (.ops [⟨some 23, none, .mv (.tmp 6)⟩,
        ⟨some 24, none, .bin .eql 0 (.tmp 23) (.const (.int .i64 0))⟩])
      (.cond (.tmp 24) (.ops [⟨some 25, none, .mv (.tmp 5)⟩,
        ⟨some 3, none, .mv (.tmp 25)⟩])
      .skip))))
    (.ops [⟨some 14, none, .mv (.tmp 4)⟩,
     ⟨some 15, none, .bin .sub 0 (.tmp 14) (.const (.int .i64 1))⟩,
     ⟨some 4, none, .mv (.tmp 15)⟩]))))))
 (.seq (.seq (.ops [⟨some 26, none, .mv (.tmp 0)⟩,
    ⟨some 27, none, .call (.func 112) [(.tmp 26), (.const (.int .i64 24))]⟩])
  (.block 2 (.seq (.ops [⟨some 29, none, .bin .eql 0 (.tmp 27) (.const (.int .i64 0))⟩,
     ⟨some 28, none, .mv (.tmp 29)⟩])
   (.cond (.tmp 28) (.ops [⟨some 30, none, .mv (.tmp 3)⟩,
     ⟨some 31, none, .mv (.tmp 0)⟩,
     ⟨some 32, none, .call (.func 134) [(.tmp 31)]⟩,
     ⟨some 33, none, .lit 5 [(.tmp 32)]⟩,
     ⟨some 34, none, .app 5 48 (.tmp 30) (.tmp 33)⟩,
     ⟨some 3, none, .mv (.tmp 34)⟩])
   (.seq (.ops [⟨some 36, none, .bin .eql 0 (.tmp 27) (.const (.int .i64 1))⟩,
      ⟨some 35, none, .mv (.tmp 36)⟩])
    (.cond (.tmp 35) (.seq (.ops [⟨some 7, none, .mv (.const (.int .i64 0))⟩])
     (.block 3 (.loop (.seq (.seq (.ops [⟨some 37, none, .mv (.tmp 3)⟩,
          ⟨some 38, none, .len false (.tmp 37)⟩,
          ⟨some 39, none, .mv (.tmp 0)⟩,
          ⟨some 40, none, .call (.func 112) [(.tmp 39), (.const (.int .i64 2))]⟩,
          ⟨some 41, none, .bin .add 0 (.const (.int .i64 8)) (.tmp 40)⟩,
          ⟨some 42, none, .bin .lss 0 (.tmp 38) (.tmp 41)⟩,
          ⟨some 43, none, .mv (.tmp 42)⟩,
          ⟨some 44, some (43, true), .mv (.tmp 7)⟩,
          ⟨some 45, some (43, true), .bin .lss 0 (.tmp 44) (.const (.int .i64 12))⟩,
          ⟨some 46, none, .pick (.tmp 43) (.tmp 45) (.const (.bool false))⟩])
        (.cond (.tmp 46) .skip
        (.exit 3)))
       (.seq (.block 4 (.ops [⟨some 49, none, .mv (.tmp 3)⟩,
          ⟨some 50, none, .mv (.tmp 7)⟩,
          ⟨some 51, none, .mv (.tmp 7)⟩,
          ⟨some 52, none, .bin .add 0 (.tmp 51) (.const (.int .i64 1))⟩,
          ⟨some 53, none, .sstr (.const (.string ⟨#[97, 98, 99, 100, 101, 102, 103, 104, 105, 106, 107, 108]⟩)) (some (.tmp 50)) (some (.tmp 52))⟩,
          ⟨some 54, none, .bin .add 0 (.const (.string ⟨#[122, 122]⟩)) (.tmp 53)⟩,
          ⟨some 55, none, .build [.string ⟨#[]⟩, .int .i64 0, .int .i64 0, .int .i64 0, .int .i64 0] [(0, 1, (.tmp 54)), (2, 1, (.const (.int .i64 1))), (3, 1, (.const (.int .i64 1)))]⟩,
          ⟨some 56, none, .lit 5 [(.tmp 55)]⟩,
          ⟨some 57, none, .app 5 48 (.tmp 49) (.tmp 56)⟩,
          ⟨some 3, none, .mv (.tmp 57)⟩]))
       (.ops [⟨some 47, none, .mv (.tmp 7)⟩,
        ⟨some 48, none, .bin .add 0 (.tmp 47) (.const (.int .i64 1))⟩,
        ⟨some 7, none, .mv (.tmp 48)⟩]))))))
    (.seq (.ops [⟨some 59, none, .bin .eql 0 (.tmp 27) (.const (.int .i64 2))⟩,
       ⟨some 58, none, .mv (.tmp 59)⟩])
     (.cond (.tmp 58) (.seq (.ops [⟨some 8, none, .mv (.const (.int .i64 0))⟩])
      (.block 5 (.loop (.seq (.seq (.ops [⟨some 60, none, .mv (.tmp 8)⟩,
           ⟨some 61, none, .mv (.tmp 3)⟩,
           ⟨some 62, none, .len false (.tmp 61)⟩,
           ⟨some 63, none, .bin .lss 0 (.tmp 60) (.tmp 62)⟩])
         (.cond (.tmp 63) .skip
         (.exit 5)))
        (.seq (.block 6 (.ops [⟨some 66, none, .mv (.tmp 3)⟩,
           ⟨some 67, none, .mv (.tmp 8)⟩,
           ⟨some 68, none, .ia 5 (.tmp 66) (.tmp 67)⟩,
           ⟨some 69, none, .fa 1 (.tmp 68)⟩,
           ⟨none, none, .store 1 (.tmp 69) (.const (.int .i64 0))⟩]))
        (.ops [⟨some 64, none, .mv (.tmp 8)⟩,
         ⟨some 65, none, .bin .add 0 (.tmp 64) (.const (.int .i64 1))⟩,
         ⟨some 8, none, .mv (.tmp 65)⟩]))))))
     .skip))))))))
 (.seq (.ops [⟨some 70, none, .mv (.tmp 3)⟩,
   ⟨some 2, none, .mv (.tmp 70)⟩])
 .ret)))))
theorem C122_ok : Try.f122.body.bind (comp Try.prog) = some C122 := by kernel_rfl
theorem C122_res : compRs Try.prog Try.f122.results.toList = some [.tmp 2] := by kernel_rfl
theorem C122_nm : (Try.f122.name == "runtime.NumGoroutine") = false := by kernel_rfl
theorem C122_fn {a0 : AV} {H : Heap} {Q : AV → Heap → Prop} (h : vc Try.prog C122 (vcEnd [.tmp 2] Q) H [a0, .any, .any, .any, .any, .any, .any, .any, .any, .any, .any, .any, .any, .any, .any, .any, .any, .any, .any, .any, .any, .any, .any, .any, .any, .any, .any, .any, .any, .any, .any, .any, .any, .any, .any, .any, .any, .any, .any, .any, .any, .any, .any, .any, .any, .any, .any, .any, .any, .any, .any, .any, .any, .any, .any, .any, .any, .any, .any, .any, .any, .any, .any, .any, .any, .any, .any, .any, .any, .any, .any]) : Runs Try.prog 122 [a0] H Q :=
  @fn_go Try.prog mixed 122 Try.f122 C122 [.tmp 2] Try.func122 C122_ok C122_res C122_nm 71 Try.ntmps122 [a0] [a0, .any, .any, .any, .any, .any, .any, .any, .any, .any, .any, .any, .any, .any, .any, .any, .any, .any, .any, .any, .any, .any, .any, .any, .any, .any, .any, .any, .any, .any, .any, .any, .any, .any, .any, .any, .any, .any, .any, .any, .any, .any, .any, .any, .any, .any, .any, .any, .any, .any, .any, .any, .any, .any, .any, .any, .any, .any, .any, .any, .any, .any, .any, .any, .any, .any, .any, .any, .any, .any, .any] H Q h 70 (by kernel_rfl) (by kernel_rfl)

/-- spec.DrawAwardFund -/
def C58 : CC :=
 (.seq (.ops [⟨some 2, none, .mv (.const (.slice none 0 0))⟩,
   ⟨some 3, none, .mv (.const (.int .i64 0))⟩])
 (.seq (.ops [⟨some 6, none, .mv (.tmp 0)⟩,
   ⟨some 7, none, .call (.func 110) [(.tmp 6)]⟩,
   ⟨some 4, none, .mv (.tmp 7)⟩])
 (.seq (.ops [⟨some 8, none, .mv (.tmp 4)⟩,
   ⟨some 9, none, .call (.func 122) [(.tmp 8)]⟩,
   ⟨some 5, none, .mv (.tmp 9)⟩])
 (.seq (.ops [⟨some 10, none, .mv (.tmp 5)⟩,
   ⟨some 11, none, .mv (.tmp 4)⟩,
   ⟨some 12, none, .call (.func 113) [(.tmp 11)]⟩,
   ⟨some 2, none, .mv (.tmp 10)⟩,
   ⟨some 3, none, .mv (.tmp 12)⟩])
 .ret))))
theorem C58_ok : Try.f58.body.bind (comp Try.prog) = some C58 := by kernel_rfl
theorem C58_res : compRs Try.prog Try.f58.results.toList = some [.tmp 2, .tmp 3] := by kernel_rfl
theorem C58_nm : (Try.f58.name == "runtime.NumGoroutine") = false := by kernel_rfl
theorem C58_fn {a0 : AV} {H : Heap} {Q : AV → Heap → Prop} (h : vc Try.prog C58 (vcEnd [.tmp 2, .tmp 3] Q) H [a0, .any, .any, .any, .any, .any, .any, .any, .any, .any, .any, .any, .any]) : Runs Try.prog 58 [a0] H Q :=
  @fn_go Try.prog mixed 58 Try.f58 C58 [.tmp 2, .tmp 3] Try.func58 C58_ok C58_res C58_nm 13 Try.ntmps58 [a0] [a0, .any, .any, .any, .any, .any, .any, .any, .any, .any, .any, .any, .any] H Q h 12 (by kernel_rfl) (by kernel_rfl)

/-- impl.CostsCovered -/
def C59 : CC :=
 (.seq (.ops [⟨some 4, none, .mv (.const (.bool false))⟩,
   ⟨some 5, none, .mv (.const (.int .i64 0))⟩])
 (.seq (.seq (.ops [⟨some 7, none, .mv (.tmp 0)⟩,
    ⟨some 8, none, .mv (.tmp 1)⟩,
    ⟨some 9, none, .call (.func 117) [(.tmp 7), (.tmp 8)]⟩,
    ⟨some 6, none, .mv (.tmp 9)⟩])
  (.seq (.ops [⟨some 10, none, .mv (.tmp 6)⟩,
    ⟨some 11, none, .bin .neq 0 (.tmp 10) (.const (.int .i64 0))⟩])
  (.cond (.tmp 11) (.seq (.ops [⟨some 12, none, .mv (.tmp 6)⟩,
     ⟨some 4, none, .mv (.const (.bool false))⟩,
     ⟨some 5, none, .mv (.tmp 12)⟩])
   .ret)
  .skip)))
 (.seq (.ops [⟨some 13, none, .mv (.tmp 1)⟩,
   ⟨some 14, none, .mv (.tmp 0)⟩,
   ⟨some 15, none, .call (.func 119) [(.tmp 14)]⟩,
   ⟨some 16, none, .call (.func 118) [(.tmp 15)]⟩,
   ⟨some 17, none, .bin .geq 0 (.tmp 13) (.tmp 16)⟩,
   ⟨some 4, none, .mv (.tmp 17)⟩,
   ⟨some 5, none, .mv (.const (.int .i64 0))⟩])
 .ret)))
theorem C59_ok : Try.f59.body.bind (comp Try.prog) = some C59 := by kernel_rfl
theorem C59_res : compRs Try.prog Try.f59.results.toList = some [.tmp 4, .tmp 5] := by kernel_rfl
theorem C59_nm : (Try.f59.name == "runtime.NumGoroutine") = false := by kernel_rfl
theorem C59_fn {a0 a1 : AV} {H : Heap} {Q : AV → Heap → Prop} (h : vc Try.prog C59 (vcEnd [.tmp 4, .tmp 5] Q) H [a0, a1, .any, .any, .any, .any, .any, .any, .any, .any, .any, .any, .any, .any, .any, .any, .any, .any]) : Runs Try.prog 59 [a0, a1] H Q :=
  @fn_go Try.prog mixed 59 Try.f59 C59 [.tmp 4, .tmp 5] Try.func59 C59_ok C59_res C59_nm 18 Try.ntmps59 [a0, a1] [a0, a1, .any, .any, .any, .any, .any, .any, .any, .any, .any, .any, .any, .any, .any, .any, .any, .any] H Q h 16 (by kernel_rfl) (by kernel_rfl)

/-- spec.CostsCovered -/
def C60 : CC :=
 (.seq (.ops [⟨some 4, none, .mv (.const (.bool false))⟩,
   ⟨some 5, none, .mv (.const (.int .i64 0))⟩])
 (.seq (.ops [⟨some 9, none, .mv (.tmp 0)⟩,
   ⟨some 10, none, .mv (.tmp 1)⟩,
   ⟨some 11, none, .call (.func 115) [(.tmp 9), (.tmp 10)]⟩,
   ⟨some 6, none, .mv (.tmp 11)⟩])
 (.seq (.seq (.ops [⟨some 12, none, .mv (.tmp 6)⟩,
    ⟨some 13, none, .bin .neq 0 (.tmp 12) (.const (.int .i64 0))⟩])
  (.cond (.tmp 13) (.seq (.ops [⟨some 14, none, .mv (.tmp 6)⟩,
     ⟨some 4, none, .mv (.const (.bool false))⟩,
     ⟨some 5, none, .mv (.tmp 14)⟩])
   .ret)
  .skip))
 (.seq (.ops [⟨some 7, none, .mv (.const (.int .i64 0))⟩])
 (.seq (.seq (.ops [⟨some 8, none, .mv (.const (.int .i64 0))⟩])
  (.block 0 (.loop (.seq (.seq (.ops [⟨some 15, none, .mv (.tmp 8)⟩,
       ⟨some 16, none, .mv (.tmp 0)⟩,
       ⟨some 17, none, .len false (.tmp 16)⟩,
       ⟨some 18, none, .bin .lss 0 (.tmp 15) (.tmp 17)⟩])
     (.cond (.tmp 18) .skip
     (.exit 0)))
    (.seq (.block 1 (.ops [⟨some 21, none, .mv (.tmp 7)⟩,
       ⟨some 22, none, .mv (.tmp 0)⟩,
       ⟨some 23, none, .mv (.tmp 8)⟩,
       ⟨some 24, none, .ia 5 (.tmp 22) (.tmp 23)⟩,
       ⟨some 25, none, .fa 4 (.tmp 24)⟩,
       ⟨some 26, none, .load false 1 (.tmp 25)⟩,
       ⟨some 27, none, .bin .add 0 (.tmp 21) (.tmp 26)⟩,
       ⟨some 7, none, .mv (.tmp 27)⟩]))
    (.ops [⟨some 19, none, .mv (.tmp 8)⟩,
     ⟨some 20, none, .bin .add 0 (.tmp 19) (.const (.int .i64 1))⟩,
     ⟨some 8, none, .mv (.tmp 20)⟩]))))))
 (.seq (.ops [⟨some 28, none, .mv (.tmp 7)⟩,
   ⟨some 29, none, .mv (.tmp 1)⟩,
   ⟨some 30, none, .bin .leq 0 (.tmp 28) (.tmp 29)⟩,
   ⟨some 4, none, .mv (.tmp 30)⟩,
   ⟨some 5, none, .mv (.const (.int .i64 0))⟩])
 .ret))))))
theorem C60_ok : Try.f60.body.bind (comp Try.prog) = some C60 := by kernel_rfl
theorem C60_res : compRs Try.prog Try.f60.results.toList = some [.tmp 4, .tmp 5] := by kernel_rfl
theorem C60_nm : (Try.f60.name == "runtime.NumGoroutine") = false := by kernel_rfl
theorem C60_fn {a0 a1 : AV} {H : Heap} {Q : AV → Heap → Prop} (h : vc Try.prog C60 (vcEnd [.tmp 4, .tmp 5] Q) H [a0, a1, .any, .any, .any, .any, .any, .any, .any, .any, .any, .any, .any, .any, .any, .any, .any, .any, .any, .any, .any, .any, .any, .any, .any, .any, .any, .any, .any, .any, .any]) : Runs Try.prog 60 [a0, a1] H Q :=
  @fn_go Try.prog mixed 60 Try.f60 C60 [.tmp 4, .tmp 5] Try.func60 C60_ok C60_res C60_nm 31 Try.ntmps60 [a0, a1] [a0, a1, .any, .any, .any, .any, .any, .any, .any, .any, .any, .any, .any, .any, .any, .any, .any, .any, .any, .any, .any, .any, .any, .any, .any, .any, .any, .any, .any, .any, .any] H Q h 29 (by kernel_rfl) (by kernel_rfl)

/-- spec.DrawMeritOf -/
def C61 : CC :=
 (.seq (.ops [⟨some 2, none, .mv (.const (.slice none 0 0))⟩,
   ⟨some 3, none, .mv (.const (.string ⟨#[]⟩))⟩])
 (.seq (.ops [⟨some 6, none, .mv (.tmp 0)⟩,
   ⟨some 7, none, .call (.func 110) [(.tmp 6)]⟩,
   ⟨some 4, none, .mv (.tmp 7)⟩])
 (.seq (.ops [⟨some 8, none, .mv (.tmp 4)⟩,
   ⟨some 9, none, .call (.func 122) [(.tmp 8)]⟩,
   ⟨some 5, none, .mv (.tmp 9)⟩])
 (.seq (.draw 7 [⟨some 10, none, .mv (.tmp 5)⟩,
   ⟨some 11, none, .lit 1 [(.const (.string ⟨#[115, 109, 105, 116]⟩)), (.const (.string ⟨#[116, 117, 103]⟩)), (.const (.string ⟨#[119, 111, 108, 102]⟩)), (.const (.string ⟨#[122, 119, 97, 114, 116]⟩)), (.const (.string ⟨#[110, 111, 110, 101]⟩))]⟩,
   ⟨some 12, none, .mv (.tmp 4)⟩,
   ⟨some 13, none, .call (.func 112) [(.tmp 12), (.const (.int .i64 5))]⟩,
   ⟨some 14, none, .ia 1 (.tmp 11) (.tmp 13)⟩,
   ⟨some 15, none, .load false 1 (.tmp 14)⟩,
   ⟨some 2, none, .mv (.tmp 10)⟩,
   ⟨some 3, none, .mv (.tmp 15)⟩])
 .ret))))
theorem C61_ok : Try.f61.body.bind (comp Try.prog) = some C61 := by kernel_rfl
theorem C61_res : compRs Try.prog Try.f61.results.toList = some [.tmp 2, .tmp 3] := by kernel_rfl
theorem C61_nm : (Try.f61.name == "runtime.NumGoroutine") = false := by kernel_rfl
theorem C61_fn {a0 : AV} {H : Heap} {Q : AV → Heap → Prop} (h : vc Try.prog C61 (vcEnd [.tmp 2, .tmp 3] Q) H [a0, .any, .any, .any, .any, .any, .any, .any, .any, .any, .any, .any, .any, .any, .any, .any]) : Runs Try.prog 61 [a0] H Q :=
  @fn_go Try.prog mixed 61 Try.f61 C61 [.tmp 2, .tmp 3] Try.func61 C61_ok C61_res C61_nm 16 Try.ntmps61 [a0] [a0, .any, .any, .any, .any, .any, .any, .any, .any, .any, .any, .any, .any, .any, .any, .any] H Q h 15 (by kernel_rfl) (by kernel_rfl)

/-- impl.indexOf[impl.Claim] -/
def C123 : CC :=
 (.seq (.ops [⟨some 4, none, .mv (.const (.int .i64 0))⟩,
   ⟨some 5, none, .mv (.const (.int .i64 0))⟩])
 (.seq (.ops [⟨some 7, none, .mv (.tmp 0)⟩,
   ⟨some 8, none, .mv (.tmp 1)⟩,
   ⟨some 9, none, .call (.func 151) [(.tmp 7), (.tmp 8)]⟩,
   ⟨some 6, none, .mv (.tmp 9)⟩])
 (.seq (.seq (.ops [⟨some 10, none, .mv (.tmp 6)⟩,
    ⟨some 11, none, .bin .lss 0 (.tmp 10) (.const (.int .i64 0))⟩])
  (.cond (.tmp 11) (.seq (.ops [⟨some 4, none, .mv (.const (.int .i64 0))⟩,
     ⟨some 5, none, .mv (.const (.int .i64 4))⟩])
   .ret)
  .skip))
 (.seq (.ops [⟨some 12, none, .mv (.tmp 6)⟩,
   ⟨some 4, none, .mv (.tmp 12)⟩,
   ⟨some 5, none, .mv (.const (.int .i64 0))⟩])
 .ret))))
theorem C123_ok : Try.f123.body.bind (comp Try.prog) = some C123 := by kernel_rfl
theorem C123_res : compRs Try.prog Try.f123.results.toList = some [.tmp 4, .tmp 5] := by kernel_rfl
theorem C123_nm : (Try.f123.name == "runtime.NumGoroutine") = false := by kernel_rfl
theorem C123_fn {a0 a1 : AV} {H : Heap} {Q : AV → Heap → Prop} (h : vc Try.prog C123 (vcEnd [.tmp 4, .tmp 5] Q) H [a0, a1, .any, .any, .any, .any, .any, .any, .any, .any, .any, .any, .any]) : Runs Try.prog 123 [a0, a1] H Q :=
  @fn_go Try.prog mixed 123 Try.f123 C123 [.tmp 4, .tmp 5] Try.func123 C123_ok C123_res C123_nm 13 Try.ntmps123 [a0, a1] [a0, a1, .any, .any, .any, .any, .any, .any, .any, .any, .any, .any, .any] H Q h 11 (by kernel_rfl) (by kernel_rfl)

/-- impl.MeritOf$1 -/
def C124 : CC :=
 (.seq (.ops [⟨some 2, none, .box (.tmp 0)⟩,
   ⟨some 3, none, .mv (.const (.bool false))⟩])
 (.seq (.ops [⟨some 4, none, .fa 0 (.tmp 2)⟩,
   ⟨some 5, none, .load false 1 (.tmp 4)⟩,
   ⟨some 6, none, .load false 1 (.tmp 1)⟩,
   ⟨some 7, none, .bin .eql 0 (.tmp 5) (.tmp 6)⟩,
   ⟨some 3, none, .mv (.tmp 7)⟩])
 .ret))
theorem C124_ok : Try.f124.body.bind (comp Try.prog) = some C124 := by kernel_rfl
theorem C124_res : compRs Try.prog Try.f124.results.toList = some [.tmp 3] := by kernel_rfl
theorem C124_nm : (Try.f124.name == "runtime.NumGoroutine") = false := by kernel_rfl
theorem C124_fn {a0 a1 : AV} {H : Heap} {Q : AV → Heap → Prop} (h : vc Try.prog C124 (vcEnd [.tmp 3] Q) H [a0, a1, .any, .any, .any, .any, .any, .any]) : Runs Try.prog 124 [a0, a1] H Q :=
  @fn_go Try.prog mixed 124 Try.f124 C124 [.tmp 3] Try.func124 C124_ok C124_res C124_nm 8 Try.ntmps124 [a0, a1] [a0, a1, .any, .any, .any, .any, .any, .any] H Q h 6 (by kernel_rfl) (by kernel_rfl)

/-- impl.MeritOf -/
def C62 : CC :=
 (.seq (.ops [⟨some 3, none, .box (.tmp 1)⟩,
   ⟨some 4, none, .mv (.const (.int .i64 0))⟩,
   ⟨some 5, none, .mv (.const (.int .i64 0))⟩])
 (.seq (.seq (.ops [⟨some 8, none, .mv (.tmp 0)⟩,
    ⟨some 9, none, .call (.func 67) [(.tmp 8)]⟩,
    ⟨some 10, none, .not (.tmp 9)⟩])
  (.cond (.tmp 10) (.seq (.ops [⟨some 4, none, .mv (.const (.int .i64 0))⟩,
     ⟨some 5, none, .mv (.const (.int .i64 1))⟩])
   .ret)
  .skip))
 (.seq (.ops [⟨some 12, none, .mv (.tmp 0)⟩,
   ⟨some 13, none, .mkf 124 [(.tmp 3)]⟩,
   ⟨some 14, none, .call (.func 123) [(.tmp 12), (.tmp 13)]⟩,
   ⟨some 11, none, .mv (.tmp 14)⟩,
   ⟨some 15, none, .ext (.tmp 11) 0⟩,
   ⟨some 16, none, .ext (.tmp 11) 1⟩,
   ⟨some 6, none, .mv (.tmp 15)⟩,
   ⟨some 7, none, .mv (.tmp 16)⟩])
 (.seq (.seq (.ops [⟨some 17, none, .mv (.tmp 7)⟩,
    ⟨some 18, none, .bin .neq 0 (.tmp 17) (.const (.int .i64 0))⟩])
  (.cond (.tmp 18) (.seq (.ops [⟨some 19, none, .mv (.tmp 7)⟩,
     ⟨some 4, none, .mv (.const (.int .i64 0))⟩,
     ⟨some 5, none, .mv (.tmp 19)⟩])
   .ret)
  .skip))
 (.seq (.ops [⟨some 20, none, .mv (.tmp 0)⟩,
   ⟨some 21, none, .mv (.tmp 6)⟩,
   ⟨some 22, none, .ia 5 (.tmp 20) (.tmp 21)⟩,
   ⟨some 23, none, .load true 5 (.tmp 22)⟩,
   ⟨some 24, none, .call (.func 78) [(.tmp 23)]⟩,
   ⟨some 4, none, .mv (.tmp 24)⟩,
   ⟨some 5, none, .mv (.const (.int .i64 0))⟩])
 .ret)))))
theorem C62_ok : Try.f62.body.bind (comp Try.prog) = some C62 := by kernel_rfl
theorem C62_res : compRs Try.prog Try.f62.results.toList = some [.tmp 4, .tmp 5] := by kernel_rfl
theorem C62_nm : (Try.f62.name == "runtime.NumGoroutine") = false := by kernel_rfl
theorem C62_fn {a0 a1 : AV} {H : Heap} {Q : AV → Heap → Prop} (h : vc Try.prog C62 (vcEnd [.tmp 4, .tmp 5] Q) H [a0, a1, .any, .any, .any, .any, .any, .any, .any, .any, .any, .any, .any, .any, .any, .any, .any, .any, .any, .any, .any, .any, .any, .any, .any]) : Runs Try.prog 62 [a0, a1] H Q :=
  @fn_go Try.prog mixed 62 Try.f62 C62 [.tmp 4, .tmp 5] Try.func62 C62_ok C62_res C62_nm 25 Try.ntmps62 [a0, a1] [a0, a1, .any, .any, .any, .any, .any, .any, .any, .any, .any, .any, .any, .any, .any, .any, .any, .any, .any, .any, .any, .any, .any, .any, .any] H Q h 23 (by kernel_rfl) (by kernel_rfl)

/-- spec.MeritOf -/
def C63 : CC :=
 (.seq (.ops [⟨some 4, none, .mv (.const (.int .i64 0))⟩,
   ⟨some 5, none, .mv (.const (.int .i64 0))⟩])
 (.seq (.seq (.ops [⟨some 7, none, .mv (.tmp 0)⟩,
    ⟨some 8, none, .call (.func 68) [(.tmp 7)]⟩,
    ⟨some 9, none, .not (.tmp 8)⟩])
  (.cond (.tmp 9) (.seq (.ops [⟨some 4, none, .mv (.const (.int .i64 0))⟩,
     ⟨some 5, none, .mv (.const (.int .i64 1))⟩])
   .ret)
  .skip))
 (.seq (.ops [⟨some 10, none, .mv (.tmp 0)⟩,
   ⟨some 11, none, .mv (.tmp 1)⟩,
   ⟨some 12, none, .call (.func 125) [(.tmp 10), (.tmp 11)]⟩,
   ⟨some 6, none, .mv (.tmp 12)⟩])
 (.seq (.seq (.ops [⟨some 13, none, .mv (.tmp 6)⟩,
    ⟨some 14, none, .bin .lss 0 (.tmp 13) (.const (.int .i64 0))⟩])
  (.cond (.tmp 14) (.seq (.ops [⟨some 4, none, .mv (.const (.int .i64 0))⟩,
     ⟨some 5, none, .mv (.const (.int .i64 4))⟩])
   .ret)
  .skip))
 (.seq (.ops [⟨some 15, none, .mv (.tmp 0)⟩,
   ⟨some 16, none, .mv (.tmp 6)⟩,
   ⟨some 17, none, .ia 5 (.tmp 15) (.tmp 16)⟩,
   ⟨some 18, none, .load true 5 (.tmp 17)⟩,
   ⟨some 19, none, .call (.func 76) [(.tmp 18)]⟩,
   ⟨some 4, none, .mv (.tmp 19)⟩,
   ⟨some 5, none, .mv (.const (.int .i64 0))⟩])
 .ret)))))
theorem C63_ok : Try.f63.body.bind (comp Try.prog) = some C63 := by kernel_rfl
theorem C63_res : compRs Try.prog Try.f63.results.toList = some [.tmp 4, .tmp 5] := by kernel_rfl
theorem C63_nm : (Try.f63.name == "runtime.NumGoroutine") = false := by kernel_rfl
theorem C63_fn {a0 a1 : AV} {H : Heap} {Q : AV → Heap → Prop} (h : vc Try.prog C63 (vcEnd [.tmp 4, .tmp 5] Q) H [a0, a1, .any, .any, .any, .any, .any, .any, .any, .any, .any, .any, .any, .any, .any, .any, .any, .any, .any, .any]) : Runs Try.prog 63 [a0, a1] H Q :=
  @fn_go Try.prog mixed 63 Try.f63 C63 [.tmp 4, .tmp 5] Try.func63 C63_ok C63_res C63_nm 20 Try.ntmps63 [a0, a1] [a0, a1, .any, .any, .any, .any, .any, .any, .any, .any, .any, .any, .any, .any, .any, .any, .any, .any, .any, .any] H Q h 18 (by kernel_rfl) (by kernel_rfl)

/-- spec.l04DrawPoints -/
def C126 : CC :=
 (.seq (.ops [⟨some 2, none, .mv (.const (.int .i64 0))⟩])
 (.seq (.ops [⟨some 3, none, .mv (.tmp 0)⟩,
   ⟨some 4, none, .mv (.tmp 0)⟩,
   ⟨some 5, none, .call (.func 112) [(.tmp 4), (.const (.int .i64 1000))]⟩,
   ⟨some 6, none, .mv (.tmp 0)⟩,
   ⟨some 7, none, .call (.func 112) [(.tmp 6), (.const (.int .i64 1000))]⟩,
   ⟨some 8, none, .lit 1 [(.const (.int .i64 200)), (.const (.int .i64 700)), (.tmp 5), (.const (.int .i64 0)), (.const (.int .i64 10000)), (.const (.int .i64 10001)), (.const (.int .i64 (-1))), (.tmp 7)]⟩,
   ⟨some 9, none, .call (.func 114) [(.tmp 3), (.tmp 8)]⟩,
   ⟨some 2, none, .mv (.tmp 9)⟩])
 .ret))
theorem C126_ok : Try.f126.body.bind (comp Try.prog) = some C126 := by kernel_rfl
theorem C126_res : compRs Try.prog Try.f126.results.toList = some [.tmp 2] := by kernel_rfl
theorem C126_nm : (Try.f126.name == "runtime.NumGoroutine") = false := by kernel_rfl
theorem C126_fn {a0 : AV} {H : Heap} {Q : AV → Heap → Prop} (h : vc Try.prog C126 (vcEnd [.tmp 2] Q) H [a0, .any, .any, .any, .any, .any, .any, .any, .any, .any]) : Runs Try.prog 126 [a0] H Q :=
  @fn_go Try.prog mixed 126 Try.f126 C126 [.tmp 2] Try.func126 C126_ok C126_res C126_nm 10 Try.ntmps126 [a0] [a0, .any, .any, .any, .any, .any, .any, .any, .any, .any] H Q h 9 (by kernel_rfl) (by kernel_rfl)

/-- spec.DrawFundFor -/
def C64 : CC :=
 (.seq (.ops [⟨some 2, none, .mv (.const (.int .i64 0))⟩,
   ⟨some 3, none, .mv (.const (.int .i64 0))⟩])
 (.seq (.ops [⟨some 6, none, .mv (.tmp 0)⟩,
   ⟨some 7, none, .call (.func 110) [(.tmp 6)]⟩,
   ⟨some 4, none, .mv (.tmp 7)⟩])
 (.seq (.ops [⟨some 8, none, .mv (.tmp 4)⟩,
   ⟨some 9, none, .call (.func 113) [(.tmp 8)]⟩,
   ⟨some 5, none, .mv (.tmp 9)⟩])
 (.seq (.ops [⟨some 10, none, .mv (.tmp 5)⟩,
   ⟨some 11, none, .mv (.tmp 4)⟩,
   ⟨some 12, none, .call (.func 126) [(.tmp 11)]⟩,
   ⟨some 2, none, .mv (.tmp 10)⟩,
   ⟨some 3, none, .mv (.tmp 12)⟩])
 .ret))))
theorem C64_ok : Try.f64.body.bind (comp Try.prog) = some C64 := by kernel_rfl
theorem C64_res : compRs Try.prog Try.f64.results.toList = some [.tmp 2, .tmp 3] := by kernel_rfl
theorem C64_nm : (Try.f64.name == "runtime.NumGoroutine") = false := by kernel_rfl
theorem C64_fn {a0 : AV} {H : Heap} {Q : AV → Heap → Prop} (h : vc Try.prog C64 (vcEnd [.tmp 2, .tmp 3] Q) H [a0, .any, .any, .any, .any, .any, .any, .any, .any, .any, .any, .any, .any]) : Runs Try.prog 64 [a0] H Q :=
  @fn_go Try.prog mixed 64 Try.f64 C64 [.tmp 2, .tmp 3] Try.func64 C64_ok C64_res C64_nm 13 Try.ntmps64 [a0] [a0, .any, .any, .any, .any, .any, .any, .any, .any, .any, .any, .any, .any] H Q h 12 (by kernel_rfl) (by kernel_rfl)

/-- impl.isPoints -/
def C127 : CC :=
 (.seq (.ops [⟨some 2, none, .mv (.const (.bool false))⟩])
 (.seq (.ops [⟨some 3, none, .mv (.tmp 0)⟩,
   ⟨some 4, none, .call (.func 87) [(.tmp 3), (.const (.int .i64 0)), (.const (.int .i64 10000))]⟩,
   ⟨some 2, none, .mv (.tmp 4)⟩])
 .ret))
theorem C127_ok : Try.f127.body.bind (comp Try.prog) = some C127 := by kernel_rfl
theorem C127_res : compRs Try.prog Try.f127.results.toList = some [.tmp 2] := by kernel_rfl
theorem C127_nm : (Try.f127.name == "runtime.NumGoroutine") = false := by kernel_rfl
theorem C127_fn {a0 : AV} {H : Heap} {Q : AV → Heap → Prop} (h : vc Try.prog C127 (vcEnd [.tmp 2] Q) H [a0, .any, .any, .any, .any]) : Runs Try.prog 127 [a0] H Q :=
  @fn_go Try.prog mixed 127 Try.f127 C127 [.tmp 2] Try.func127 C127_ok C127_res C127_nm 5 Try.ntmps127 [a0] [a0, .any, .any, .any, .any] H Q h 4 (by kernel_rfl) (by kernel_rfl)

/-- impl.FundFor -/
def C65 : CC :=
 (.seq (.ops [⟨some 4, none, .mv (.const (.int .i64 0))⟩,
   ⟨some 5, none, .mv (.const (.int .i64 0))⟩])
 (.seq (.seq (.ops [⟨some 6, none, .mv (.tmp 0)⟩,
    ⟨some 7, none, .call (.func 100) [(.tmp 6)]⟩,
    ⟨some 8, none, .not (.tmp 7)⟩,
    ⟨some 9, none, .mv (.tmp 8)⟩,
    ⟨some 10, some (9, false), .mv (.tmp 1)⟩,
    ⟨some 11, some (9, false), .call (.func 127) [(.tmp 10)]⟩,
    ⟨some 12, some (9, false), .not (.tmp 11)⟩,
    ⟨some 13, none, .pick (.tmp 9) (.const (.bool true)) (.tmp 12)⟩])
  (.cond (.tmp 13) (.seq (.ops [⟨some 4, none, .mv (.const (.int .i64 0))⟩,
     ⟨some 5, none, .mv (.const (.int .i64 2))⟩])
   .ret)
  .skip))
 (.seq (.ops [⟨some 14, none, .mv (.tmp 0)⟩,
   ⟨some 15, none, .mv (.tmp 1)⟩,
   ⟨some 16, none, .bin .mul 0 (.tmp 14) (.tmp 15)⟩,
   ⟨some 17, none, .bin .quo 0 (.tmp 16) (.const (.int .i64 10000))⟩,
   ⟨some 4, none, .mv (.tmp 17)⟩,
   ⟨some 5, none, .mv (.const (.int .i64 0))⟩])
 .ret)))
theorem C65_ok : Try.f65.body.bind (comp Try.prog) = some C65 := by kernel_rfl
theorem C65_res : compRs Try.prog Try.f65.results.toList = some [.tmp 4, .tmp 5] := by kernel_rfl
theorem C65_nm : (Try.f65.name == "runtime.NumGoroutine") = false := by kernel_rfl
theorem C65_fn {a0 a1 : AV} {H : Heap} {Q : AV → Heap → Prop} (h : vc Try.prog C65 (vcEnd [.tmp 4, .tmp 5] Q) H [a0, a1, .any, .any, .any, .any, .any, .any, .any, .any, .any, .any, .any, .any, .any, .any, .any, .any]) : Runs Try.prog 65 [a0, a1] H Q :=
  @fn_go Try.prog mixed 65 Try.f65 C65 [.tmp 4, .tmp 5] Try.func65 C65_ok C65_res C65_nm 18 Try.ntmps65 [a0, a1] [a0, a1, .any, .any, .any, .any, .any, .any, .any, .any, .any, .any, .any, .any, .any, .any, .any, .any] H Q h 16 (by kernel_rfl) (by kernel_rfl)

/-- spec.l04Points -/
def C128 : CC :=
 (.seq (.ops [⟨some 2, none, .mv (.const (.bool false))⟩])
 (.seq (.ops [⟨some 3, none, .mv (.tmp 0)⟩,
   ⟨some 4, none, .call (.func 86) [(.tmp 3), (.const (.int .i64 0)), (.const (.int .i64 10000))]⟩,
   ⟨some 2, none, .mv (.tmp 4)⟩])
 .ret))
theorem C128_ok : Try.f128.body.bind (comp Try.prog) = some C128 := by kernel_rfl
theorem C128_res : compRs Try.prog Try.f128.results.toList = some [.tmp 2] := by kernel_rfl
theorem C128_nm : (Try.f128.name == "runtime.NumGoroutine") = false := by kernel_rfl
theorem C128_fn {a0 : AV} {H : Heap} {Q : AV → Heap → Prop} (h : vc Try.prog C128 (vcEnd [.tmp 2] Q) H [a0, .any, .any, .any, .any]) : Runs Try.prog 128 [a0] H Q :=
  @fn_go Try.prog mixed 128 Try.f128 C128 [.tmp 2] Try.func128 C128_ok C128_res C128_nm 5 Try.ntmps128 [a0] [a0, .any, .any, .any, .any] H Q h 4 (by kernel_rfl) (by kernel_rfl)

/-- spec.FundFor -/
def C66 : CC :=
 (.seq (.ops [⟨some 4, none, .mv (.const (.int .i64 0))⟩,
   ⟨some 5, none, .mv (.const (.int .i64 0))⟩])
 (.seq (.seq (.ops [⟨some 6, none, .mv (.tmp 0)⟩,
    ⟨some 7, none, .call (.func 98) [(.tmp 6)]⟩,
    ⟨some 8, none, .not (.tmp 7)⟩,
    ⟨some 9, none, .mv (.tmp 8)⟩,
    ⟨some 10, some (9, false), .mv (.tmp 1)⟩,
    ⟨some 11, some (9, false), .call (.func 128) [(.tmp 10)]⟩,
    ⟨some 12, some (9, false), .not (.tmp 11)⟩,
    ⟨some 13, none, .pick (.tmp 9) (.const (.bool true)) (.tmp 12)⟩])
  (.cond (.tmp 13) (.seq (.ops [⟨some 4, none, .mv (.const (.int .i64 0))⟩,
     ⟨some 5, none, .mv (.const (.int .i64 2))⟩])
   .ret)
  .skip))
 (.seq (.ops [⟨some 14, none, .mv (.tmp 0)⟩,
   ⟨some 15, none, .mv (.tmp 1)⟩,
   ⟨some 16, none, .bin .mul 0 (.tmp 14) (.tmp 15)⟩,
   ⟨some 17, none, .bin .quo 0 (.tmp 16) (.const (.int .i64 10000))⟩,
   ⟨some 4, none, .mv (.tmp 17)⟩,
   ⟨some 5, none, .mv (.const (.int .i64 0))⟩])
 .ret)))
theorem C66_ok : Try.f66.body.bind (comp Try.prog) = some C66 := by kernel_rfl
theorem C66_res : compRs Try.prog Try.f66.results.toList = some [.tmp 4, .tmp 5] := by kernel_rfl
theorem C66_nm : (Try.f66.name == "runtime.NumGoroutine") = false := by kernel_rfl
theorem C66_fn {a0 a1 : AV} {H : Heap} {Q : AV → Heap → Prop} (h : vc Try.prog C66 (vcEnd [.tmp 4, .tmp 5] Q) H [a0, a1, .any, .any, .any, .any, .any, .any, .any, .any, .any, .any, .any, .any, .any, .any, .any, .any]) : Runs Try.prog 66 [a0, a1] H Q :=
  @fn_go Try.prog mixed 66 Try.f66 C66 [.tmp 4, .tmp 5] Try.func66 C66_ok C66_res C66_nm 18 Try.ntmps66 [a0, a1] [a0, a1, .any, .any, .any, .any, .any, .any, .any, .any, .any, .any, .any, .any, .any, .any, .any, .any] H Q h 16 (by kernel_rfl) (by kernel_rfl)

end Go.Proofs.Ytbgnlnlgjmipfaa
