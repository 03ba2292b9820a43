/- The code of the functions, in the form of our laws; each is the program's own, by the kernel. Written by a program of ours. -/
import Derived.Test.YtpaflfaokgapgaaB0
import Derived.KernelRfl
namespace Go.Proofs.Ytpaflfaokgapgaa
open Go.Abs

/-- laws.FnExactOverdueOn -/
def C9 : CC :=
 (.seq (.ops [⟨some 4, none, .mv (.const (.bool false))⟩])
 (.seq (.ops [⟨some 5, none, .mv (.const (.int .i64 1048576))⟩])
 (.seq (.ops [⟨some 16, none, .mv (.tmp 0)⟩,
   ⟨some 17, none, .mv (.tmp 5)⟩,
   ⟨some 18, none, .call (.func 15) [(.tmp 16), (.tmp 17)]⟩,
   ⟨some 5, none, .mv (.tmp 18)⟩])
 (.seq (.seq (.ops [⟨some 19, none, .mv (.tmp 5)⟩,
    ⟨some 20, none, .bin .lss 0 (.tmp 19) (.const (.int .i64 0))⟩])
  (.cond (.tmp 20) (.seq (.ops [⟨some 4, none, .mv (.const (.bool true))⟩])
   .ret)
  .skip))
 (.seq (.ops [⟨some 22, none, .mv (.tmp 0)⟩,
   ⟨some 23, none, .call (.func 17) [(.tmp 22)]⟩,
   ⟨some 24, none, .mv (.tmp 1)⟩,
   ⟨some 25, none, .call (.func 35) [(.tmp 23), (.tmp 24)]⟩,
   ⟨some 21, none, .mv (.tmp 25)⟩,
   ⟨some 26, none, .ext (.tmp 21) 0⟩,
   ⟨some 27, none, .ext (.tmp 21) 1⟩,
   ⟨some 6, none, .mv (.tmp 26)⟩,
   ⟨some 7, none, .mv (.tmp 27)⟩])
 (.seq (.ops [⟨some 28, none, .mv (.tmp 0)⟩,
   ⟨some 29, none, .call (.func 17) [(.tmp 28)]⟩,
   ⟨some 8, none, .mv (.tmp 29)⟩])
 (.seq (.ops [⟨some 31, none, .mv (.tmp 8)⟩,
   ⟨some 32, none, .mv (.tmp 1)⟩,
   ⟨some 33, none, .call (.func 36) [(.tmp 31), (.tmp 32)]⟩,
   ⟨some 30, none, .mv (.tmp 33)⟩,
   ⟨some 34, none, .ext (.tmp 30) 0⟩,
   ⟨some 35, none, .ext (.tmp 30) 1⟩,
   ⟨some 9, none, .mv (.tmp 34)⟩,
   ⟨some 10, none, .mv (.tmp 35)⟩])
 (.seq (.seq (.ops [⟨some 36, none, .mv (.tmp 9)⟩,
    ⟨some 37, none, .mv (.tmp 6)⟩,
    ⟨some 38, none, .call (.func 28) [(.tmp 36), (.tmp 37)]⟩,
    ⟨some 39, none, .not (.tmp 38)⟩,
    ⟨some 40, none, .mv (.tmp 39)⟩,
    ⟨some 41, some (40, false), .mv (.tmp 10)⟩,
    ⟨some 42, some (40, false), .mv (.tmp 7)⟩,
    ⟨some 43, some (40, false), .bin .neq 0 (.tmp 41) (.tmp 42)⟩,
    ⟨some 44, none, .pick (.tmp 40) (.const (.bool true)) (.tmp 43)⟩])
  (.cond (.tmp 44) (.seq (.ops [⟨some 4, none, .mv (.const (.bool false))⟩])
   .ret)
  .skip))
 (.seq (.seq (.ops [⟨some 45, none, .mv (.tmp 8)⟩,
    ⟨some 46, none, .mv (.tmp 0)⟩,
    ⟨some 47, none, .call (.func 17) [(.tmp 46)]⟩,
    ⟨some 48, none, .call (.func 19) [(.tmp 45), (.tmp 47)]⟩,
    ⟨some 49, none, .not (.tmp 48)⟩])
  (.cond (.tmp 49) (.seq (.ops [⟨some 4, none, .mv (.const (.bool false))⟩])
   .ret)
  .skip))
 (.seq (.ops [⟨some 11, none, .mv (.const (.int .i64 1))⟩])
 (.seq (.ops [⟨some 50, none, .mv (.tmp 8)⟩,
   ⟨some 51, none, .mv (.tmp 11)⟩,
   ⟨some 52, none, .call (.func 29) [(.tmp 50), (.tmp 51)]⟩,
   ⟨some 11, none, .mv (.tmp 52)⟩])
 (.seq (.seq (.ops [⟨some 53, none, .mv (.tmp 11)⟩,
    ⟨some 54, none, .bin .lss 0 (.tmp 53) (.const (.int .i64 0))⟩,
    ⟨some 55, none, .mv (.tmp 54)⟩,
    ⟨some 56, some (55, false), .mv (.tmp 9)⟩,
    ⟨some 57, some (55, false), .mv (.tmp 6)⟩,
    ⟨some 58, some (55, false), .call (.func 28) [(.tmp 56), (.tmp 57)]⟩,
    ⟨some 59, some (55, false), .not (.tmp 58)⟩,
    ⟨some 60, none, .pick (.tmp 55) (.const (.bool true)) (.tmp 59)⟩,
    ⟨some 61, none, .mv (.tmp 60)⟩,
    ⟨some 62, some (61, false), .mv (.tmp 10)⟩,
    ⟨some 63, some (61, false), .mv (.tmp 7)⟩,
    ⟨some 64, some (61, false), .bin .neq 0 (.tmp 62) (.tmp 63)⟩,
    ⟨some 65, none, .pick (.tmp 61) (.const (.bool true)) (.tmp 64)⟩])
  (.cond (.tmp 65) (.seq (.ops [⟨some 4, none, .mv (.const (.bool false))⟩])
   .ret)
  .skip))
 (.seq (.ops [⟨some 12, none, .mv (.const (.int .i64 1))⟩])
 (.seq (.ops [⟨some 66, none, .mv (.tmp 9)⟩,
   ⟨some 67, none, .mv (.tmp 12)⟩,
   ⟨some 68, none, .call (.func 30) [(.tmp 66), (.tmp 67)]⟩,
   ⟨some 12, none, .mv (.tmp 68)⟩])
 (.seq (.ops [⟨some 13, none, .mv (.const (.int .i64 1))⟩])
 (.seq (.ops [⟨some 69, none, .mv (.tmp 9)⟩,
   ⟨some 70, none, .mv (.tmp 13)⟩,
   ⟨some 71, none, .call (.func 31) [(.tmp 69), (.tmp 70)]⟩,
   ⟨some 13, none, .mv (.tmp 71)⟩])
 (.seq (.seq (.ops [⟨some 72, none, .mv (.tmp 13)⟩,
    ⟨some 73, none, .bin .lss 0 (.tmp 72) (.const (.int .i64 0))⟩])
  (.cond (.tmp 73) (.seq (.ops [⟨some 4, none, .mv (.const (.bool false))⟩])
   .ret)
  .skip))
 (.seq (.seq (.ops [⟨some 74, none, .mv (.tmp 13)⟩,
    ⟨some 75, none, .mv (.tmp 12)⟩,
    ⟨some 76, none, .bin .neq 0 (.tmp 74) (.tmp 75)⟩])
  (.cond (.tmp 76) (.seq (.ops [⟨some 4, none, .mv (.const (.bool false))⟩])
   .ret)
  .skip))
 (.seq (.ops [⟨some 78, none, .mv (.tmp 0)⟩,
   ⟨some 79, none, .call (.func 17) [(.tmp 78)]⟩,
   ⟨some 80, none, .mv (.tmp 1)⟩,
   ⟨some 81, none, .call (.func 36) [(.tmp 79), (.tmp 80)]⟩,
   ⟨some 77, none, .mv (.tmp 81)⟩,
   ⟨some 82, none, .ext (.tmp 77) 0⟩,
   ⟨some 83, none, .ext (.tmp 77) 1⟩,
   ⟨some 14, none, .mv (.tmp 82)⟩,
   ⟨some 15, none, .mv (.tmp 83)⟩])
 (.seq (.seq (.ops [⟨some 84, none, .mv (.tmp 14)⟩,
    ⟨some 85, none, .mv (.tmp 6)⟩,
    ⟨some 86, none, .call (.func 28) [(.tmp 84), (.tmp 85)]⟩,
    ⟨some 87, none, .not (.tmp 86)⟩,
    ⟨some 88, none, .mv (.tmp 87)⟩,
    ⟨some 89, some (88, false), .mv (.tmp 15)⟩,
    ⟨some 90, some (88, false), .mv (.tmp 7)⟩,
    ⟨some 91, some (88, false), .bin .neq 0 (.tmp 89) (.tmp 90)⟩,
    ⟨some 92, none, .pick (.tmp 88) (.const (.bool true)) (.tmp 91)⟩])
  (.cond (.tmp 92) (.seq (.ops [⟨some 4, none, .mv (.const (.bool false))⟩])
   .ret)
  .skip))
 (.seq (.ops [⟨some 13, none, .mv (.const (.int .i64 1))⟩])
 (.seq (.ops [⟨some 93, none, .mv (.tmp 9)⟩,
   ⟨some 94, none, .mv (.tmp 13)⟩,
   ⟨some 95, none, .call (.func 31) [(.tmp 93), (.tmp 94)]⟩,
   ⟨some 13, none, .mv (.tmp 95)⟩])
 (.seq (.seq (.ops [⟨some 96, none, .mv (.tmp 13)⟩,
    ⟨some 97, none, .bin .lss 0 (.tmp 96) (.const (.int .i64 0))⟩])
  (.cond (.tmp 97) (.seq (.ops [⟨some 4, none, .mv (.const (.bool false))⟩])
   .ret)
  .skip))
 (.seq (.seq (.ops [⟨some 98, none, .mv (.tmp 13)⟩,
    ⟨some 99, none, .mv (.tmp 12)⟩,
    ⟨some 100, none, .bin .neq 0 (.tmp 98) (.tmp 99)⟩])
  (.cond (.tmp 100) (.seq (.ops [⟨some 4, none, .mv (.const (.bool false))⟩])
   .ret)
  .skip))
 (.seq (.ops [⟨some 4, none, .mv (.const (.bool true))⟩])
 .ret)))))))))))))))))))))))))
theorem C9_ok : Try.f9.body.bind (comp Try.prog) = some C9 := by kernel_rfl
theorem C9_res : compRs Try.prog Try.f9.results.toList = some [.tmp 4] := by kernel_rfl
theorem C9_nm : (Try.f9.name == "runtime.NumGoroutine") = false := by kernel_rfl
theorem C9_fn {a0 a1 : AV} {H : Heap} {Q : AV → Heap → Prop} (h : vc Try.prog C9 (vcEnd [.tmp 4] Q) H [a0, a1, .any, .any, .any, .any, .any, .any, .any, .any, .any, .any, .any, .any, .any, .any, .any, .any, .any, .any, .any, .any, .any, .any, .any, .any, .any, .any, .any, .any, .any, .any, .any, .any, .any, .any, .any, .any, .any, .any, .any, .any, .any, .any, .any, .any, .any, .any, .any, .any, .any, .any, .any, .any, .any, .any, .any, .any, .any, .any, .any, .any, .any, .any, .any, .any, .any, .any, .any, .any, .any, .any, .any, .any, .any, .any, .any, .any, .any, .any, .any, .any, .any, .any, .any, .any, .any, .any, .any, .any, .any, .any, .any, .any, .any, .any, .any, .any, .any, .any, .any]) : Runs Try.prog 9 [a0, a1] H Q :=
  @fn_go Try.prog mixed 9 Try.f9 C9 [.tmp 4] Try.func9 C9_ok C9_res C9_nm 101 Try.ntmps9 [a0, a1] [a0, a1, .any, .any, .any, .any, .any, .any, .any, .any, .any, .any, .any, .any, .any, .any, .any, .any, .any, .any, .any, .any, .any, .any, .any, .any, .any, .any, .any, .any, .any, .any, .any, .any, .any, .any, .any, .any, .any, .any, .any, .any, .any, .any, .any, .any, .any, .any, .any, .any, .any, .any, .any, .any, .any, .any, .any, .any, .any, .any, .any, .any, .any, .any, .any, .any, .any, .any, .any, .any, .any, .any, .any, .any, .any, .any, .any, .any, .any, .any, .any, .any, .any, .any, .any, .any, .any, .any, .any, .any, .any, .any, .any, .any, .any, .any, .any, .any, .any, .any, .any] H Q h 99 (by kernel_rfl) (by kernel_rfl)

/-- spec.SendNotice -/
def C37 : CC :=
 (.seq (.ops [⟨some 8, none, .mv (.const (.slice none 0 0))⟩,
   ⟨some 9, none, .mv (.const (.int .i64 0))⟩])
 (.seq (.seq (.ops [⟨some 12, none, .mv (.tmp 0)⟩,
    ⟨some 13, none, .call (.func 16) [(.tmp 12)]⟩,
    ⟨some 14, none, .not (.tmp 13)⟩])
  (.cond (.tmp 14) (.seq (.ops [⟨some 8, none, .mv (.const (.slice none 0 0))⟩,
     ⟨some 9, none, .mv (.const (.int .i64 1))⟩])
   .ret)
  .skip))
 (.seq (.seq (.ops [⟨some 15, none, .mv (.tmp 2)⟩,
    ⟨some 16, none, .call (.func 72) [(.tmp 15)]⟩,
    ⟨some 17, none, .not (.tmp 16)⟩])
  (.cond (.tmp 17) (.seq (.ops [⟨some 8, none, .mv (.const (.slice none 0 0))⟩,
     ⟨some 9, none, .mv (.const (.int .i64 2))⟩])
   .ret)
  .skip))
 (.seq (.ops [⟨some 10, none, .mv (.const (.int .i64 0))⟩])
 (.seq (.block 0 (.loop (.seq (.seq (.ops [⟨some 18, none, .mv (.tmp 10)⟩,
       ⟨some 19, none, .mv (.tmp 0)⟩,
       ⟨some 20, none, .len false (.tmp 19)⟩,
       ⟨some 21, none, .bin .lss 0 (.tmp 18) (.tmp 20)⟩,
       ⟨some 22, none, .mv (.tmp 21)⟩,
       ⟨some 23, some (22, true), .mv (.tmp 0)⟩,
       ⟨some 24, some (22, true), .mv (.tmp 10)⟩,
       ⟨some 25, some (22, true), .ia 4 (.tmp 23) (.tmp 24)⟩,
       ⟨some 26, some (22, true), .fa 1 (.tmp 25)⟩,
       ⟨some 27, some (22, true), .load false 1 (.tmp 26)⟩,
       ⟨some 28, some (22, true), .mv (.tmp 2)⟩,
       ⟨some 29, some (22, true), .bin .leq 0 (.tmp 27) (.tmp 28)⟩,
       ⟨some 30, none, .pick (.tmp 22) (.tmp 29) (.const (.bool false))⟩])
     (.cond (.tmp 30) .skip
     (.exit 0)))
    (.block 1 (.ops [⟨some 31, none, .mv (.tmp 10)⟩,
      ⟨some 32, none, .bin .add 0 (.tmp 31) (.const (.int .i64 1))⟩,
      ⟨some 10, none, .mv (.tmp 32)⟩])))))
 (.seq (.loud 15 (.alt (.step ⟨some 33, none, .lit 4 []⟩ (.alt (.step ⟨some 37, none, .app 4 40 (.tmp 33) (.tmp 36)⟩ (.step ⟨some 42, none, .lit 4 [(.tmp 41)]⟩ (.step ⟨some 43, none, .app 4 40 (.tmp 37) (.tmp 42)⟩ (.step ⟨some 47, none, .app 4 40 (.tmp 43) (.tmp 46)⟩ .leaf))))
   (.step ⟨some 42, none, .lit 4 [(.tmp 41)]⟩ (.step ⟨some 37, none, .app 4 40 (.tmp 33) (.tmp 36)⟩ (.step ⟨some 43, none, .app 4 40 (.tmp 37) (.tmp 42)⟩ (.step ⟨some 47, none, .app 4 40 (.tmp 43) (.tmp 46)⟩ .leaf))))))
   (.step ⟨some 42, none, .lit 4 [(.tmp 41)]⟩ (.step ⟨some 33, none, .lit 4 []⟩ (.step ⟨some 37, none, .app 4 40 (.tmp 33) (.tmp 36)⟩ (.step ⟨some 43, none, .app 4 40 (.tmp 37) (.tmp 42)⟩ (.step ⟨some 47, none, .app 4 40 (.tmp 43) (.tmp 46)⟩ .leaf))))))
   [⟨none, none, .mv (.const undef)⟩, 
  ⟨some 34, none, .mv (.tmp 0)⟩, 
  ⟨some 35, none, .mv (.tmp 10)⟩, 
  ⟨some 36, none, .slc 4 (.tmp 34) none (some (.tmp 35))⟩, 
  ⟨none, none, .mv (.const undef)⟩, 
  ⟨some 38, none, .mv (.tmp 1)⟩, 
  ⟨some 39, none, .mv (.tmp 2)⟩, 
  ⟨some 40, none, .mv (.tmp 3)⟩, 
  ⟨some 41, none, .build [.string ⟨#[]⟩, .int .i64 0, .int .i64 0, .int .i64 0] [(0, 1, (.tmp 38)), (1, 1, (.tmp 39)), (2, 1, (.tmp 40)), (3, 1, (.const (.int .i64 (-1))))]⟩, 
  ⟨none, none, .mv (.const undef)⟩, 
  ⟨none, none, .mv (.const undef)⟩, 
  ⟨some 44, none, .mv (.tmp 0)⟩, 
  ⟨some 45, none, .mv (.tmp 10)⟩, 
  ⟨some 46, none, .slc 4 (.tmp 44) (some (.tmp 45)) none⟩, 
  ⟨none, none, .mv (.const undef)⟩]
   [⟨some 11, none, .mv (.tmp 47)⟩])
 (.seq (.seq (.ops [⟨some 48, none, .mv (.tmp 11)⟩,
    ⟨some 49, none, .call (.func 16) [(.tmp 48)]⟩,
    ⟨some 50, none, .not (.tmp 49)⟩])
  (.cond (.tmp 50) (.seq (.ops [⟨some 8, none, .mv (.const (.slice none 0 0))⟩,
     ⟨some 9, none, .mv (.const (.int .i64 5))⟩])
   .ret)
  .skip))
 (.seq (.ops [⟨some 51, none, .mv (.tmp 11)⟩,
   ⟨some 8, none, .mv (.tmp 51)⟩,
   ⟨some 9, none, .mv (.const (.int .i64 0))⟩])
 .ret))))))))
theorem C37_ok : Try.f37.body.bind (comp Try.prog) = some C37 := by kernel_rfl
theorem C37_res : compRs Try.prog Try.f37.results.toList = some [.tmp 8, .tmp 9] := by kernel_rfl
theorem C37_nm : (Try.f37.name == "runtime.NumGoroutine") = false := by kernel_rfl
theorem C37_fn {a0 a1 a2 a3 : AV} {H : Heap} {Q : AV → Heap → Prop} (h : vc Try.prog C37 (vcEnd [.tmp 8, .tmp 9] Q) H [a0, a1, a2, a3, .any, .any, .any, .any, .any, .any, .any, .any, .any, .any, .any, .any, .any, .any, .any, .any, .any, .any, .any, .any, .any, .any, .any, .any, .any, .any, .any, .any, .any, .any, .any, .any, .any, .any, .any, .any, .any, .any, .any, .any, .any, .any, .any, .any, .any, .any, .any, .any]) : Runs Try.prog 37 [a0, a1, a2, a3] H Q :=
  @fn_go Try.prog mixed 37 Try.f37 C37 [.tmp 8, .tmp 9] Try.func37 C37_ok C37_res C37_nm 52 Try.ntmps37 [a0, a1, a2, a3] [a0, a1, a2, a3, .any, .any, .any, .any, .any, .any, .any, .any, .any, .any, .any, .any, .any, .any, .any, .any, .any, .any, .any, .any, .any, .any, .any, .any, .any, .any, .any, .any, .any, .any, .any, .any, .any, .any, .any, .any, .any, .any, .any, .any, .any, .any, .any, .any, .any, .any, .any, .any] H Q h 48 (by kernel_rfl) (by kernel_rfl)

/-- impl.SendNotice$1 -/
def C95 : CC :=
 (.seq (.ops [⟨some 2, none, .box (.tmp 0)⟩,
   ⟨some 3, none, .mv (.const (.bool false))⟩])
 (.seq (.ops [⟨some 4, none, .fa 1 (.tmp 2)⟩,
   ⟨some 5, none, .load false 1 (.tmp 4)⟩,
   ⟨some 6, none, .load false 1 (.tmp 1)⟩,
   ⟨some 7, none, .bin .leq 0 (.tmp 5) (.tmp 6)⟩,
   ⟨some 3, none, .mv (.tmp 7)⟩])
 .ret))
theorem C95_ok : Try.f95.body.bind (comp Try.prog) = some C95 := by kernel_rfl
theorem C95_res : compRs Try.prog Try.f95.results.toList = some [.tmp 3] := by kernel_rfl
theorem C95_nm : (Try.f95.name == "runtime.NumGoroutine") = false := by kernel_rfl
theorem C95_fn {a0 a1 : AV} {H : Heap} {Q : AV → Heap → Prop} (h : vc Try.prog C95 (vcEnd [.tmp 3] Q) H [a0, a1, .any, .any, .any, .any, .any, .any]) : Runs Try.prog 95 [a0, a1] H Q :=
  @fn_go Try.prog mixed 95 Try.f95 C95 [.tmp 3] Try.func95 C95_ok C95_res C95_nm 8 Try.ntmps95 [a0, a1] [a0, a1, .any, .any, .any, .any, .any, .any] H Q h 6 (by kernel_rfl) (by kernel_rfl)

/-- impl.SendNotice -/
def C38 : CC :=
 (.seq (.ops [⟨some 6, none, .box (.tmp 2)⟩,
   ⟨some 8, none, .mv (.const (.slice none 0 0))⟩,
   ⟨some 9, none, .mv (.const (.int .i64 0))⟩])
 (.seq (.seq (.ops [⟨some 13, none, .mv (.tmp 0)⟩,
    ⟨some 14, none, .load false 1 (.tmp 6)⟩,
    ⟨some 15, none, .call (.func 85) [(.tmp 13), (.tmp 14)]⟩,
    ⟨some 10, none, .mv (.tmp 15)⟩])
  (.seq (.ops [⟨some 16, none, .mv (.tmp 10)⟩,
    ⟨some 17, none, .bin .neq 0 (.tmp 16) (.const (.int .i64 0))⟩])
  (.cond (.tmp 17) (.seq (.ops [⟨some 18, none, .mv (.tmp 10)⟩,
     ⟨some 8, none, .mv (.const (.slice none 0 0))⟩,
     ⟨some 9, none, .mv (.tmp 18)⟩])
   .ret)
  .skip)))
 (.seq (.ops [⟨some 19, none, .mv (.tmp 0)⟩,
   ⟨some 20, none, .mkf 95 [(.tmp 6)]⟩,
   ⟨some 21, none, .call (.func 93) [(.tmp 19), (.tmp 20)]⟩,
   ⟨some 22, none, .call (.func 88) [(.tmp 21)]⟩,
   ⟨some 11, none, .mv (.tmp 22)⟩])
 (.seq (.loud 14 (.alt (.step ⟨some 26, none, .call (.func 92) [(.tmp 25)]⟩ (.step ⟨some 31, none, .lit 4 [(.tmp 30)]⟩ (.step ⟨some 32, none, .app 4 40 (.tmp 26) (.tmp 31)⟩ (.step ⟨some 36, none, .app 4 40 (.tmp 32) (.tmp 35)⟩ .leaf))))
   (.step ⟨some 31, none, .lit 4 [(.tmp 30)]⟩ (.step ⟨some 26, none, .call (.func 92) [(.tmp 25)]⟩ (.step ⟨some 32, none, .app 4 40 (.tmp 26) (.tmp 31)⟩ (.step ⟨some 36, none, .app 4 40 (.tmp 32) (.tmp 35)⟩ .leaf)))))
   [⟨some 23, none, .mv (.tmp 0)⟩, 
  ⟨some 24, none, .mv (.tmp 11)⟩, 
  ⟨some 25, none, .slc 4 (.tmp 23) none (some (.tmp 24))⟩, 
  ⟨none, none, .mv (.const undef)⟩, 
  ⟨some 27, none, .mv (.tmp 1)⟩, 
  ⟨some 28, none, .load false 1 (.tmp 6)⟩, 
  ⟨some 29, none, .mv (.tmp 3)⟩, 
  ⟨some 30, none, .build [.string ⟨#[]⟩, .int .i64 0, .int .i64 0, .int .i64 0] [(0, 1, (.tmp 27)), (1, 1, (.tmp 28)), (2, 1, (.tmp 29)), (3, 1, (.const (.int .i64 (-1))))]⟩, 
  ⟨none, none, .mv (.const undef)⟩, 
  ⟨none, none, .mv (.const undef)⟩, 
  ⟨some 33, none, .mv (.tmp 0)⟩, 
  ⟨some 34, none, .mv (.tmp 11)⟩, 
  ⟨some 35, none, .slc 4 (.tmp 33) (some (.tmp 34)) none⟩, 
  ⟨none, none, .mv (.const undef)⟩]
   [⟨some 12, none, .mv (.tmp 36)⟩])
 (.seq (.seq (.ops [⟨some 37, none, .mv (.tmp 12)⟩,
    ⟨some 38, none, .call (.func 18) [(.tmp 37)]⟩,
    ⟨some 39, none, .not (.tmp 38)⟩])
  (.cond (.tmp 39) (.seq (.ops [⟨some 8, none, .mv (.const (.slice none 0 0))⟩,
     ⟨some 9, none, .mv (.const (.int .i64 5))⟩])
   .ret)
  .skip))
 (.seq (.ops [⟨some 40, none, .mv (.tmp 12)⟩,
   ⟨some 8, none, .mv (.tmp 40)⟩,
   ⟨some 9, none, .mv (.const (.int .i64 0))⟩])
 .ret))))))
theorem C38_ok : Try.f38.body.bind (comp Try.prog) = some C38 := by kernel_rfl
theorem C38_res : compRs Try.prog Try.f38.results.toList = some [.tmp 8, .tmp 9] := by kernel_rfl
theorem C38_nm : (Try.f38.name == "runtime.NumGoroutine") = false := by kernel_rfl
theorem C38_fn {a0 a1 a2 a3 : AV} {H : Heap} {Q : AV → Heap → Prop} (h : vc Try.prog C38 (vcEnd [.tmp 8, .tmp 9] Q) H [a0, a1, a2, a3, .any, .any, .any, .any, .any, .any, .any, .any, .any, .any, .any, .any, .any, .any, .any, .any, .any, .any, .any, .any, .any, .any, .any, .any, .any, .any, .any, .any, .any, .any, .any, .any, .any, .any, .any, .any, .any]) : Runs Try.prog 38 [a0, a1, a2, a3] H Q :=
  @fn_go Try.prog mixed 38 Try.f38 C38 [.tmp 8, .tmp 9] Try.func38 C38_ok C38_res C38_nm 41 Try.ntmps38 [a0, a1, a2, a3] [a0, a1, a2, a3, .any, .any, .any, .any, .any, .any, .any, .any, .any, .any, .any, .any, .any, .any, .any, .any, .any, .any, .any, .any, .any, .any, .any, .any, .any, .any, .any, .any, .any, .any, .any, .any, .any, .any, .any, .any, .any] H Q h 37 (by kernel_rfl) (by kernel_rfl)

/-- laws.FnExactSendNotice -/
def C10 : CC :=
 (.seq (.ops [⟨some 8, none, .mv (.const (.bool false))⟩])
 (.seq (.seq (.ops [⟨some 20, none, .mv (.tmp 1)⟩,
    ⟨some 21, none, .len true (.tmp 20)⟩,
    ⟨some 22, none, .bin .gtr 0 (.tmp 21) (.const (.int .i64 1048576))⟩])
  (.cond (.tmp 22) (.seq (.ops [⟨some 8, none, .mv (.const (.bool true))⟩])
   .ret)
  .skip))
 (.seq (.ops [⟨some 9, none, .mv (.const (.int .i64 1048576))⟩])
 (.seq (.ops [⟨some 23, none, .mv (.tmp 0)⟩,
   ⟨some 24, none, .mv (.tmp 9)⟩,
   ⟨some 25, none, .call (.func 15) [(.tmp 23), (.tmp 24)]⟩,
   ⟨some 9, none, .mv (.tmp 25)⟩])
 (.seq (.seq (.ops [⟨some 26, none, .mv (.tmp 9)⟩,
    ⟨some 27, none, .bin .lss 0 (.tmp 26) (.const (.int .i64 0))⟩])
  (.cond (.tmp 27) (.seq (.ops [⟨some 8, none, .mv (.const (.bool true))⟩])
   .ret)
  .skip))
 (.seq (.ops [⟨some 29, none, .mv (.tmp 0)⟩,
   ⟨some 30, none, .call (.func 17) [(.tmp 29)]⟩,
   ⟨some 31, none, .mv (.tmp 1)⟩,
   ⟨some 32, none, .mv (.tmp 2)⟩,
   ⟨some 33, none, .mv (.tmp 3)⟩,
   ⟨some 34, none, .call (.func 37) [(.tmp 30), (.tmp 31), (.tmp 32), (.tmp 33)]⟩,
   ⟨some 28, none, .mv (.tmp 34)⟩,
   ⟨some 35, none, .ext (.tmp 28) 0⟩,
   ⟨some 36, none, .ext (.tmp 28) 1⟩,
   ⟨some 10, none, .mv (.tmp 35)⟩,
   ⟨some 11, none, .mv (.tmp 36)⟩])
 (.seq (.ops [⟨some 37, none, .mv (.tmp 0)⟩,
   ⟨some 38, none, .call (.func 17) [(.tmp 37)]⟩,
   ⟨some 12, none, .mv (.tmp 38)⟩])
 (.seq (.ops [⟨some 40, none, .mv (.tmp 12)⟩,
   ⟨some 41, none, .mv (.tmp 1)⟩,
   ⟨some 42, none, .mv (.tmp 2)⟩,
   ⟨some 43, none, .mv (.tmp 3)⟩,
   ⟨some 44, none, .call (.func 38) [(.tmp 40), (.tmp 41), (.tmp 42), (.tmp 43)]⟩,
   ⟨some 39, none, .mv (.tmp 44)⟩,
   ⟨some 45, none, .ext (.tmp 39) 0⟩,
   ⟨some 46, none, .ext (.tmp 39) 1⟩,
   ⟨some 13, none, .mv (.tmp 45)⟩,
   ⟨some 14, none, .mv (.tmp 46)⟩])
 (.seq (.seq (.ops [⟨some 47, none, .mv (.tmp 13)⟩,
    ⟨some 48, none, .mv (.tmp 10)⟩,
    ⟨some 49, none, .call (.func 19) [(.tmp 47), (.tmp 48)]⟩,
    ⟨some 50, none, .not (.tmp 49)⟩,
    ⟨some 51, none, .mv (.tmp 50)⟩,
    ⟨some 52, some (51, false), .mv (.tmp 14)⟩,
    ⟨some 53, some (51, false), .mv (.tmp 11)⟩,
    ⟨some 54, some (51, false), .bin .neq 0 (.tmp 52) (.tmp 53)⟩,
    ⟨some 55, none, .pick (.tmp 51) (.const (.bool true)) (.tmp 54)⟩])
  (.cond (.tmp 55) (.seq (.ops [⟨some 8, none, .mv (.const (.bool false))⟩])
   .ret)
  .skip))
 (.seq (.seq (.ops [⟨some 56, none, .mv (.tmp 12)⟩,
    ⟨some 57, none, .mv (.tmp 0)⟩,
    ⟨some 58, none, .call (.func 17) [(.tmp 57)]⟩,
    ⟨some 59, none, .call (.func 19) [(.tmp 56), (.tmp 58)]⟩,
    ⟨some 60, none, .not (.tmp 59)⟩])
  (.cond (.tmp 60) (.seq (.ops [⟨some 8, none, .mv (.const (.bool false))⟩])
   .ret)
  .skip))
 (.seq (.ops [⟨some 15, none, .mv (.const (.int .i64 1))⟩])
 (.seq (.ops [⟨some 61, none, .mv (.tmp 12)⟩,
   ⟨some 62, none, .mv (.tmp 15)⟩,
   ⟨some 63, none, .call (.func 29) [(.tmp 61), (.tmp 62)]⟩,
   ⟨some 15, none, .mv (.tmp 63)⟩])
 (.seq (.seq (.ops [⟨some 64, none, .mv (.tmp 15)⟩,
    ⟨some 65, none, .bin .lss 0 (.tmp 64) (.const (.int .i64 0))⟩,
    ⟨some 66, none, .mv (.tmp 65)⟩,
    ⟨some 67, some (66, false), .mv (.tmp 13)⟩,
    ⟨some 68, some (66, false), .mv (.tmp 10)⟩,
    ⟨some 69, some (66, false), .call (.func 19) [(.tmp 67), (.tmp 68)]⟩,
    ⟨some 70, some (66, false), .not (.tmp 69)⟩,
    ⟨some 71, none, .pick (.tmp 66) (.const (.bool true)) (.tmp 70)⟩,
    ⟨some 72, none, .mv (.tmp 71)⟩,
    ⟨some 73, some (72, false), .mv (.tmp 14)⟩,
    ⟨some 74, some (72, false), .mv (.tmp 11)⟩,
    ⟨some 75, some (72, false), .bin .neq 0 (.tmp 73) (.tmp 74)⟩,
    ⟨some 76, none, .pick (.tmp 72) (.const (.bool true)) (.tmp 75)⟩])
  (.cond (.tmp 76) (.seq (.ops [⟨some 8, none, .mv (.const (.bool false))⟩])
   .ret)
  .skip))
 (.seq (.ops [⟨some 16, none, .mv (.const (.int .i64 1))⟩])
 (.seq (.ops [⟨some 77, none, .mv (.tmp 13)⟩,
   ⟨some 78, none, .mv (.tmp 16)⟩,
   ⟨some 79, none, .call (.func 29) [(.tmp 77), (.tmp 78)]⟩,
   ⟨some 16, none, .mv (.tmp 79)⟩])
 (.seq (.ops [⟨some 17, none, .mv (.const (.int .i64 1))⟩])
 (.seq (.ops [⟨some 80, none, .mv (.tmp 13)⟩,
   ⟨some 81, none, .mv (.tmp 17)⟩,
   ⟨some 82, none, .call (.func 34) [(.tmp 80), (.tmp 81)]⟩,
   ⟨some 17, none, .mv (.tmp 82)⟩])
 (.seq (.seq (.ops [⟨some 83, none, .mv (.tmp 17)⟩,
    ⟨some 84, none, .bin .lss 0 (.tmp 83) (.const (.int .i64 0))⟩])
  (.cond (.tmp 84) (.seq (.ops [⟨some 8, none, .mv (.const (.bool false))⟩])
   .ret)
  .skip))
 (.seq (.seq (.ops [⟨some 85, none, .mv (.tmp 17)⟩,
    ⟨some 86, none, .mv (.tmp 16)⟩,
    ⟨some 87, none, .bin .neq 0 (.tmp 85) (.tmp 86)⟩])
  (.cond (.tmp 87) (.seq (.ops [⟨some 8, none, .mv (.const (.bool false))⟩])
   .ret)
  .skip))
 (.seq (.ops [⟨some 89, none, .mv (.tmp 0)⟩,
   ⟨some 90, none, .call (.func 17) [(.tmp 89)]⟩,
   ⟨some 91, none, .mv (.tmp 1)⟩,
   ⟨some 92, none, .mv (.tmp 2)⟩,
   ⟨some 93, none, .mv (.tmp 3)⟩,
   ⟨some 94, none, .call (.func 38) [(.tmp 90), (.tmp 91), (.tmp 92), (.tmp 93)]⟩,
   ⟨some 88, none, .mv (.tmp 94)⟩,
   ⟨some 95, none, .ext (.tmp 88) 0⟩,
   ⟨some 96, none, .ext (.tmp 88) 1⟩,
   ⟨some 18, none, .mv (.tmp 95)⟩,
   ⟨some 19, none, .mv (.tmp 96)⟩])
 (.seq (.seq (.ops [⟨some 97, none, .mv (.tmp 18)⟩,
    ⟨some 98, none, .mv (.tmp 10)⟩,
    ⟨some 99, none, .call (.func 19) [(.tmp 97), (.tmp 98)]⟩,
    ⟨some 100, none, .not (.tmp 99)⟩,
    ⟨some 101, none, .mv (.tmp 100)⟩,
    ⟨some 102, some (101, false), .mv (.tmp 19)⟩,
    ⟨some 103, some (101, false), .mv (.tmp 11)⟩,
    ⟨some 104, some (101, false), .bin .neq 0 (.tmp 102) (.tmp 103)⟩,
    ⟨some 105, none, .pick (.tmp 101) (.const (.bool true)) (.tmp 104)⟩])
  (.cond (.tmp 105) (.seq (.ops [⟨some 8, none, .mv (.const (.bool false))⟩])
   .ret)
  .skip))
 (.seq (.ops [⟨some 17, none, .mv (.const (.int .i64 1))⟩])
 (.seq (.ops [⟨some 106, none, .mv (.tmp 13)⟩,
   ⟨some 107, none, .mv (.tmp 17)⟩,
   ⟨some 108, none, .call (.func 34) [(.tmp 106), (.tmp 107)]⟩,
   ⟨some 17, none, .mv (.tmp 108)⟩])
 (.seq (.seq (.ops [⟨some 109, none, .mv (.tmp 17)⟩,
    ⟨some 110, none, .bin .lss 0 (.tmp 109) (.const (.int .i64 0))⟩])
  (.cond (.tmp 110) (.seq (.ops [⟨some 8, none, .mv (.const (.bool false))⟩])
   .ret)
  .skip))
 (.seq (.seq (.ops [⟨some 111, none, .mv (.tmp 17)⟩,
    ⟨some 112, none, .mv (.tmp 16)⟩,
    ⟨some 113, none, .bin .neq 0 (.tmp 111) (.tmp 112)⟩])
  (.cond (.tmp 113) (.seq (.ops [⟨some 8, none, .mv (.const (.bool false))⟩])
   .ret)
  .skip))
 (.seq (.ops [⟨some 8, none, .mv (.const (.bool true))⟩])
 .ret))))))))))))))))))))))))))
theorem C10_ok : Try.f10.body.bind (comp Try.prog) = some C10 := by kernel_rfl
theorem C10_res : compRs Try.prog Try.f10.results.toList = some [.tmp 8] := by kernel_rfl
theorem C10_nm : (Try.f10.name == "runtime.NumGoroutine") = false := by kernel_rfl
theorem C10_fn {a0 a1 a2 a3 : AV} {H : Heap} {Q : AV → Heap → Prop} (h : vc Try.prog C10 (vcEnd [.tmp 8] Q) H [a0, a1, a2, a3, .any, .any, .any, .any, .any, .any, .any, .any, .any, .any, .any, .any, .any, .any, .any, .any, .any, .any, .any, .any, .any, .any, .any, .any, .any, .any, .any, .any, .any, .any, .any, .any, .any, .any, .any, .any, .any, .any, .any, .any, .any, .any, .any, .any, .any, .any, .any, .any, .any, .any, .any, .any, .any, .any, .any, .any, .any, .any, .any, .any, .any, .any, .any, .any, .any, .any, .any, .any, .any, .any, .any, .any, .any, .any, .any, .any, .any, .any, .any, .any, .any, .any, .any, .any, .any, .any, .any, .any, .any, .any, .any, .any, .any, .any, .any, .any, .any, .any, .any, .any, .any, .any, .any, .any, .any, .any, .any, .any, .any, .any]) : Runs Try.prog 10 [a0, a1, a2, a3] H Q :=
  @fn_go Try.prog mixed 10 Try.f10 C10 [.tmp 8] Try.func10 C10_ok C10_res C10_nm 114 Try.ntmps10 [a0, a1, a2, a3] [a0, a1, a2, a3, .any, .any, .any, .any, .any, .any, .any, .any, .any, .any, .any, .any, .any, .any, .any, .any, .any, .any, .any, .any, .any, .any, .any, .any, .any, .any, .any, .any, .any, .any, .any, .any, .any, .any, .any, .any, .any, .any, .any, .any, .any, .any, .any, .any, .any, .any, .any, .any, .any, .any, .any, .any, .any, .any, .any, .any, .any, .any, .any, .any, .any, .any, .any, .any, .any, .any, .any, .any, .any, .any, .any, .any, .any, .any, .any, .any, .any, .any, .any, .any, .any, .any, .any, .any, .any, .any, .any, .any, .any, .any, .any, .any, .any, .any, .any, .any, .any, .any, .any, .any, .any, .any, .any, .any, .any, .any, .any, .any, .any, .any] H Q h 110 (by kernel_rfl) (by kernel_rfl)

/-- spec.l06Insert -/
def C96 : CC :=
 (.seq (.ops [⟨some 4, none, .mv (.const (.slice none 0 0))⟩])
 (.seq (.ops [⟨some 5, none, .mv (.const (.int .i64 0))⟩])
 (.seq (.block 0 (.loop (.seq (.seq (.ops [⟨some 6, none, .mv (.tmp 5)⟩,
       ⟨some 7, none, .mv (.tmp 0)⟩,
       ⟨some 8, none, .len false (.tmp 7)⟩,
       ⟨some 9, none, .bin .lss 0 (.tmp 6) (.tmp 8)⟩,
       ⟨some 10, none, .mv (.tmp 9)⟩,
       ⟨some 11, some (10, true), .mv (.tmp 0)⟩,
       ⟨some 12, some (10, true), .mv (.tmp 5)⟩,
       ⟨some 13, some (10, true), .ia 1 (.tmp 11) (.tmp 12)⟩,
       ⟨some 14, some (10, true), .load false 1 (.tmp 13)⟩,
       ⟨some 15, some (10, true), .mv (.tmp 1)⟩,
       ⟨some 16, some (10, true), .bin .lss 0 (.tmp 14) (.tmp 15)⟩,
       ⟨some 17, none, .pick (.tmp 10) (.tmp 16) (.const (.bool false))⟩])
     (.cond (.tmp 17) .skip
     (.exit 0)))
    (.block 1 (.ops [⟨some 18, none, .mv (.tmp 5)⟩,
      ⟨some 19, none, .bin .add 0 (.tmp 18) (.const (.int .i64 1))⟩,
      ⟨some 5, none, .mv (.tmp 19)⟩])))))
 (.seq (.seq (.ops [⟨some 20, none, .mv (.tmp 5)⟩,
    ⟨some 21, none, .mv (.tmp 0)⟩,
    ⟨some 22, none, .len false (.tmp 21)⟩,
    ⟨some 23, none, .bin .lss 0 (.tmp 20) (.tmp 22)⟩,
    ⟨some 24, none, .mv (.tmp 23)⟩,
    ⟨some 25, some (24, true), .mv (.tmp 0)⟩,
    ⟨some 26, some (24, true), .mv (.tmp 5)⟩,
    ⟨some 27, some (24, true), .ia 1 (.tmp 25) (.tmp 26)⟩,
    ⟨some 28, some (24, true), .load false 1 (.tmp 27)⟩,
    ⟨some 29, some (24, true), .mv (.tmp 1)⟩,
    ⟨some 30, some (24, true), .bin .eql 0 (.tmp 28) (.tmp 29)⟩,
    ⟨some 31, none, .pick (.tmp 24) (.tmp 30) (.const (.bool false))⟩])
  (.cond (.tmp 31) (.seq (.ops [⟨some 32, none, .mv (.tmp 0)⟩,
     ⟨some 4, none, .mv (.tmp 32)⟩])
   .ret)
  .skip))
 (.seq (.loud 12 (.alt (.step ⟨some 33, none, .lit 1 []⟩ (.alt (.step ⟨some 37, none, .app 1 16 (.tmp 33) (.tmp 36)⟩ (.step ⟨some 39, none, .lit 1 [(.tmp 38)]⟩ (.step ⟨some 40, none, .app 1 16 (.tmp 37) (.tmp 39)⟩ (.step ⟨some 44, none, .app 1 16 (.tmp 40) (.tmp 43)⟩ .leaf))))
   (.step ⟨some 39, none, .lit 1 [(.tmp 38)]⟩ (.step ⟨some 37, none, .app 1 16 (.tmp 33) (.tmp 36)⟩ (.step ⟨some 40, none, .app 1 16 (.tmp 37) (.tmp 39)⟩ (.step ⟨some 44, none, .app 1 16 (.tmp 40) (.tmp 43)⟩ .leaf))))))
   (.step ⟨some 39, none, .lit 1 [(.tmp 38)]⟩ (.step ⟨some 33, none, .lit 1 []⟩ (.step ⟨some 37, none, .app 1 16 (.tmp 33) (.tmp 36)⟩ (.step ⟨some 40, none, .app 1 16 (.tmp 37) (.tmp 39)⟩ (.step ⟨some 44, none, .app 1 16 (.tmp 40) (.tmp 43)⟩ .leaf))))))
   [⟨none, none, .mv (.const undef)⟩, 
  ⟨some 34, none, .mv (.tmp 0)⟩, 
  ⟨some 35, none, .mv (.tmp 5)⟩, 
  ⟨some 36, none, .slc 1 (.tmp 34) none (some (.tmp 35))⟩, 
  ⟨none, none, .mv (.const undef)⟩, 
  ⟨some 38, none, .mv (.tmp 1)⟩, 
  ⟨none, none, .mv (.const undef)⟩, 
  ⟨none, none, .mv (.const undef)⟩, 
  ⟨some 41, none, .mv (.tmp 0)⟩, 
  ⟨some 42, none, .mv (.tmp 5)⟩, 
  ⟨some 43, none, .slc 1 (.tmp 41) (some (.tmp 42)) none⟩, 
  ⟨none, none, .mv (.const undef)⟩]
   [⟨some 4, none, .mv (.tmp 44)⟩])
 .ret)))))
theorem C96_ok : Try.f96.body.bind (comp Try.prog) = some C96 := by kernel_rfl
theorem C96_res : compRs Try.prog Try.f96.results.toList = some [.tmp 4] := by kernel_rfl
theorem C96_nm : (Try.f96.name == "runtime.NumGoroutine") = false := by kernel_rfl
theorem C96_fn {a0 a1 : AV} {H : Heap} {Q : AV → Heap → Prop} (h : vc Try.prog C96 (vcEnd [.tmp 4] Q) H [a0, a1, .any, .any, .any, .any, .any, .any, .any, .any, .any, .any, .any, .any, .any, .any, .any, .any, .any, .any, .any, .any, .any, .any, .any, .any, .any, .any, .any, .any, .any, .any, .any, .any, .any, .any, .any, .any, .any, .any, .any, .any, .any, .any, .any]) : Runs Try.prog 96 [a0, a1] H Q :=
  @fn_go Try.prog mixed 96 Try.f96 C96 [.tmp 4] Try.func96 C96_ok C96_res C96_nm 45 Try.ntmps96 [a0, a1] [a0, a1, .any, .any, .any, .any, .any, .any, .any, .any, .any, .any, .any, .any, .any, .any, .any, .any, .any, .any, .any, .any, .any, .any, .any, .any, .any, .any, .any, .any, .any, .any, .any, .any, .any, .any, .any, .any, .any, .any, .any, .any, .any, .any, .any] H Q h 43 (by kernel_rfl) (by kernel_rfl)

/-- spec.OpenParties -/
def C39 : CC :=
 (.seq (.ops [⟨some 2, none, .mv (.const (.slice none 0 0))⟩,
   ⟨some 3, none, .mv (.const (.int .i64 0))⟩])
 (.seq (.seq (.ops [⟨some 6, none, .mv (.tmp 0)⟩,
    ⟨some 7, none, .call (.func 16) [(.tmp 6)]⟩,
    ⟨some 8, none, .not (.tmp 7)⟩])
  (.cond (.tmp 8) (.seq (.ops [⟨some 2, none, .mv (.const (.slice none 0 0))⟩,
     ⟨some 3, none, .mv (.const (.int .i64 1))⟩])
   .ret)
  .skip))
 (.seq (.ops [⟨some 9, none, .lit 1 []⟩,
   ⟨some 4, none, .mv (.tmp 9)⟩])
 (.seq (.seq (.ops [⟨some 5, none, .mv (.const (.int .i64 0))⟩])
  (.block 0 (.loop (.seq (.seq (.ops [⟨some 10, none, .mv (.tmp 5)⟩,
       ⟨some 11, none, .mv (.tmp 0)⟩,
       ⟨some 12, none, .len false (.tmp 11)⟩,
       ⟨some 13, none, .bin .lss 0 (.tmp 10) (.tmp 12)⟩])
     (.cond (.tmp 13) .skip
     (.exit 0)))
    (.seq (.block 1 (.seq (.ops [⟨some 16, none, .mv (.tmp 0)⟩,
        ⟨some 17, none, .mv (.tmp 5)⟩,
        ⟨some 18, none, .ia 4 (.tmp 16) (.tmp 17)⟩,
        ⟨some 19, none, .fa 3 (.tmp 18)⟩,
        ⟨some 20, none, .load false 1 (.tmp 19)⟩,
        ⟨some 21, none, .bin .eql 0 (.tmp 20) (.const (.int .i64 (-1)))⟩])
      (.cond (.tmp 21) (.ops [⟨some 22, none, .mv (.tmp 4)⟩,
        ⟨some 23, none, .mv (.tmp 0)⟩,
        ⟨some 24, none, .mv (.tmp 5)⟩,
        ⟨some 25, none, .ia 4 (.tmp 23) (.tmp 24)⟩,
        ⟨some 26, none, .fa 0 (.tmp 25)⟩,
        ⟨some 27, none, .load false 1 (.tmp 26)⟩,
        ⟨some 28, none, .call (.func 96) [(.tmp 22), (.tmp 27)]⟩,
        ⟨some 4, none, .mv (.tmp 28)⟩])
      .skip)))
    (.ops [⟨some 14, none, .mv (.tmp 5)⟩,
     ⟨some 15, none, .bin .add 0 (.tmp 14) (.const (.int .i64 1))⟩,
     ⟨some 5, none, .mv (.tmp 15)⟩]))))))
 (.seq (.ops [⟨some 29, none, .mv (.tmp 4)⟩,
   ⟨some 2, none, .mv (.tmp 29)⟩,
   ⟨some 3, none, .mv (.const (.int .i64 0))⟩])
 .ret)))))
theorem C39_ok : Try.f39.body.bind (comp Try.prog) = some C39 := by kernel_rfl
theorem C39_res : compRs Try.prog Try.f39.results.toList = some [.tmp 2, .tmp 3] := by kernel_rfl
theorem C39_nm : (Try.f39.name == "runtime.NumGoroutine") = false := by kernel_rfl
theorem C39_fn {a0 : AV} {H : Heap} {Q : AV → Heap → Prop} (h : vc Try.prog C39 (vcEnd [.tmp 2, .tmp 3] Q) H [a0, .any, .any, .any, .any, .any, .any, .any, .any, .any, .any, .any, .any, .any, .any, .any, .any, .any, .any, .any, .any, .any, .any, .any, .any, .any, .any, .any, .any, .any]) : Runs Try.prog 39 [a0] H Q :=
  @fn_go Try.prog mixed 39 Try.f39 C39 [.tmp 2, .tmp 3] Try.func39 C39_ok C39_res C39_nm 30 Try.ntmps39 [a0] [a0, .any, .any, .any, .any, .any, .any, .any, .any, .any, .any, .any, .any, .any, .any, .any, .any, .any, .any, .any, .any, .any, .any, .any, .any, .any, .any, .any, .any, .any] H Q h 29 (by kernel_rfl) (by kernel_rfl)

/-- impl.copyOf[string] -/
def C124 : CC :=
 (.seq (.ops [⟨some 2, none, .mv (.const (.slice none 0 0))⟩])
 (.seq (.ops [⟨some 3, none, .lit 1 []⟩,
   ⟨some 4, none, .mv (.tmp 0)⟩,
   ⟨some 5, none, .app 1 16 (.tmp 3) (.tmp 4)⟩,
   ⟨some 2, none, .mv (.tmp 5)⟩])
 .ret))
theorem C124_ok : Try.f124.body.bind (comp Try.prog) = some C124 := by kernel_rfl
theorem C124_res : compRs Try.prog Try.f124.results.toList = some [.tmp 2] := by kernel_rfl
theorem C124_nm : (Try.f124.name == "runtime.NumGoroutine") = false := by kernel_rfl
theorem C124_fn {a0 : AV} {H : Heap} {Q : AV → Heap → Prop} (h : vc Try.prog C124 (vcEnd [.tmp 2] Q) H [a0, .any, .any, .any, .any, .any]) : Runs Try.prog 124 [a0] H Q :=
  @fn_go Try.prog mixed 124 Try.f124 C124 [.tmp 2] Try.func124 C124_ok C124_res C124_nm 6 Try.ntmps124 [a0] [a0, .any, .any, .any, .any, .any] H Q h 5 (by kernel_rfl) (by kernel_rfl)

/-- cmp.isNaN[string] -/
def C186 : CC :=
 (.seq (.ops [⟨some 2, none, .mv (.const (.bool false))⟩])
 (.seq (.ops [⟨some 3, none, .mv (.tmp 0)⟩,
   ⟨some 4, none, .mv (.tmp 0)⟩,
   ⟨some 5, none, .bin .neq 0 (.tmp 3) (.tmp 4)⟩,
   ⟨some 2, none, .mv (.tmp 5)⟩])
 .ret))
theorem C186_ok : Try.f186.body.bind (comp Try.prog) = some C186 := by kernel_rfl
theorem C186_res : compRs Try.prog Try.f186.results.toList = some [.tmp 2] := by kernel_rfl
theorem C186_nm : (Try.f186.name == "runtime.NumGoroutine") = false := by kernel_rfl
theorem C186_fn {a0 : AV} {H : Heap} {Q : AV → Heap → Prop} (h : vc Try.prog C186 (vcEnd [.tmp 2] Q) H [a0, .any, .any, .any, .any, .any]) : Runs Try.prog 186 [a0] H Q :=
  @fn_go Try.prog mixed 186 Try.f186 C186 [.tmp 2] Try.func186 C186_ok C186_res C186_nm 6 Try.ntmps186 [a0] [a0, .any, .any, .any, .any, .any] H Q h 5 (by kernel_rfl) (by kernel_rfl)

/-- cmp.Less[string] -/
def C171 : CC :=
 (.seq (.ops [⟨some 4, none, .mv (.const (.bool false))⟩])
 (.seq (.ops [⟨some 5, none, .mv (.tmp 0)⟩,
   ⟨some 6, none, .call (.func 186) [(.tmp 5)]⟩,
   ⟨some 7, none, .mv (.tmp 6)⟩,
   ⟨some 8, some (7, true), .mv (.tmp 1)⟩,
   ⟨some 9, some (7, true), .call (.func 186) [(.tmp 8)]⟩,
   ⟨some 10, some (7, true), .not (.tmp 9)⟩,
   ⟨some 11, none, .pick (.tmp 7) (.tmp 10) (.const (.bool false))⟩,
   ⟨some 12, none, .mv (.tmp 11)⟩,
   ⟨some 13, some (12, false), .mv (.tmp 0)⟩,
   ⟨some 14, some (12, false), .mv (.tmp 1)⟩,
   ⟨some 15, some (12, false), .bin .lss 0 (.tmp 13) (.tmp 14)⟩,
   ⟨some 16, none, .pick (.tmp 12) (.const (.bool true)) (.tmp 15)⟩,
   ⟨some 4, none, .mv (.tmp 16)⟩])
 .ret))
theorem C171_ok : Try.f171.body.bind (comp Try.prog) = some C171 := by kernel_rfl
theorem C171_res : compRs Try.prog Try.f171.results.toList = some [.tmp 4] := by kernel_rfl
theorem C171_nm : (Try.f171.name == "runtime.NumGoroutine") = false := by kernel_rfl
theorem C171_fn {a0 a1 : AV} {H : Heap} {Q : AV → Heap → Prop} (h : vc Try.prog C171 (vcEnd [.tmp 4] Q) H [a0, a1, .any, .any, .any, .any, .any, .any, .any, .any, .any, .any, .any, .any, .any, .any, .any]) : Runs Try.prog 171 [a0, a1] H Q :=
  @fn_go Try.prog mixed 171 Try.f171 C171 [.tmp 4] Try.func171 C171_ok C171_res C171_nm 17 Try.ntmps171 [a0, a1] [a0, a1, .any, .any, .any, .any, .any, .any, .any, .any, .any, .any, .any, .any, .any, .any, .any] H Q h 15 (by kernel_rfl) (by kernel_rfl)

/-- slices.insertionSortOrdered[string] -/
def C165 : CC :=
 (.seq (.ops [⟨some 8, none, .mv (.tmp 1)⟩,
   ⟨some 9, none, .bin .add 0 (.tmp 8) (.const (.int .i64 1))⟩,
   ⟨some 6, none, .mv (.tmp 9)⟩])
 (.block 0 (.loop (.seq (.seq (.ops [⟨some 10, none, .mv (.tmp 6)⟩,
      ⟨some 11, none, .mv (.tmp 2)⟩,
      ⟨some 12, none, .bin .lss 0 (.tmp 10) (.tmp 11)⟩])
    (.cond (.tmp 12) .skip
    (.exit 0)))
   (.seq (.block 1 (.seq (.ops [⟨some 15, none, .mv (.tmp 6)⟩,
       ⟨some 7, none, .mv (.tmp 15)⟩])
     (.block 2 (.loop (.seq (.seq (.draw 15 [⟨some 16, none, .mv (.tmp 7)⟩,
          ⟨some 17, none, .mv (.tmp 1)⟩,
          ⟨some 18, none, .bin .gtr 0 (.tmp 16) (.tmp 17)⟩,
          ⟨some 19, none, .mv (.tmp 18)⟩,
          ⟨some 20, some (19, true), .mv (.tmp 0)⟩,
          ⟨some 21, some (19, true), .mv (.tmp 7)⟩,
          ⟨some 22, some (19, true), .ia 1 (.tmp 20) (.tmp 21)⟩,
          ⟨some 23, some (19, true), .load false 1 (.tmp 22)⟩,
          ⟨some 24, some (19, true), .mv (.tmp 0)⟩,
          ⟨some 25, some (19, true), .mv (.tmp 7)⟩,
          ⟨some 26, some (19, true), .bin .sub 0 (.tmp 25) (.const (.int .i64 1))⟩,
          ⟨some 27, some (19, true), .ia 1 (.tmp 24) (.tmp 26)⟩,
          ⟨some 28, some (19, true), .load false 1 (.tmp 27)⟩,
          ⟨some 29, some (19, true), .call (.func 171) [(.tmp 23), (.tmp 28)]⟩,
          ⟨some 30, none, .pick (.tmp 19) (.tmp 29) (.const (.bool false))⟩])
        (.cond (.tmp 30) .skip
        (.exit 2)))
       (.seq (.block 3 (.loud 16 (.alt (.step ⟨some 41, none, .ia 1 (.tmp 38) (.tmp 40)⟩ (.alt (.step ⟨some 42, none, .load false 1 (.tmp 41)⟩ (.step ⟨some 46, none, .load false 1 (.tmp 45)⟩ (.step ⟨some 47, none, .ia 1 (.tmp 33) (.tmp 34)⟩ (.step ⟨none, none, .store 1 (.tmp 47) (.tmp 42)⟩ .leaf))))
          (.step ⟨some 46, none, .load false 1 (.tmp 45)⟩ (.step ⟨some 42, none, .load false 1 (.tmp 41)⟩ (.step ⟨some 47, none, .ia 1 (.tmp 33) (.tmp 34)⟩ (.step ⟨none, none, .store 1 (.tmp 47) (.tmp 42)⟩ .leaf))))))
          (.step ⟨some 46, none, .load false 1 (.tmp 45)⟩ (.step ⟨some 41, none, .ia 1 (.tmp 38) (.tmp 40)⟩ (.step ⟨some 42, none, .load false 1 (.tmp 41)⟩ (.step ⟨some 47, none, .ia 1 (.tmp 33) (.tmp 34)⟩ (.step ⟨none, none, .store 1 (.tmp 47) (.tmp 42)⟩ .leaf))))))
          [⟨some 33, none, .mv (.tmp 0)⟩, 
         ⟨some 34, none, .mv (.tmp 7)⟩, 
         ⟨some 35, none, .mv (.tmp 0)⟩, 
         ⟨some 36, none, .mv (.tmp 7)⟩, 
         ⟨some 37, none, .bin .sub 0 (.tmp 36) (.const (.int .i64 1))⟩, 
         ⟨some 38, none, .mv (.tmp 0)⟩, 
         ⟨some 39, none, .mv (.tmp 7)⟩, 
         ⟨some 40, none, .bin .sub 0 (.tmp 39) (.const (.int .i64 1))⟩, 
         ⟨none, none, .mv (.const undef)⟩, 
         ⟨none, none, .mv (.const undef)⟩, 
         ⟨some 43, none, .mv (.tmp 0)⟩, 
         ⟨some 44, none, .mv (.tmp 7)⟩, 
         ⟨some 45, none, .ia 1 (.tmp 43) (.tmp 44)⟩, 
         ⟨none, none, .mv (.const undef)⟩, 
         ⟨none, none, .mv (.const undef)⟩, 
         ⟨none, none, .mv (.const undef)⟩]
          [⟨some 48, none, .ia 1 (.tmp 35) (.tmp 37)⟩, ⟨none, none, .store 1 (.tmp 48) (.tmp 46)⟩]))
       (.ops [⟨some 31, none, .mv (.tmp 7)⟩,
        ⟨some 32, none, .bin .sub 0 (.tmp 31) (.const (.int .i64 1))⟩,
        ⟨some 7, none, .mv (.tmp 32)⟩])))))))
   (.ops [⟨some 13, none, .mv (.tmp 6)⟩,
    ⟨some 14, none, .bin .add 0 (.tmp 13) (.const (.int .i64 1))⟩,
    ⟨some 6, none, .mv (.tmp 14)⟩]))))))
theorem C165_ok : Try.f165.body.bind (comp Try.prog) = some C165 := by kernel_rfl
theorem C165_res : compRs Try.prog Try.f165.results.toList = some [] := by kernel_rfl
theorem C165_nm : (Try.f165.name == "runtime.NumGoroutine") = false := by kernel_rfl
theorem C165_fn {a0 a1 a2 : AV} {H : Heap} {Q : AV → Heap → Prop} (h : vc Try.prog C165 (vcEnd [] Q) H [a0, a1, a2, .any, .any, .any, .any, .any, .any, .any, .any, .any, .any, .any, .any, .any, .any, .any, .any, .any, .any, .any, .any, .any, .any, .any, .any, .any, .any, .any, .any, .any, .any, .any, .any, .any, .any, .any, .any, .any, .any, .any, .any, .any, .any, .any, .any, .any, .any]) : Runs Try.prog 165 [a0, a1, a2] H Q :=
  @fn_go Try.prog mixed 165 Try.f165 C165 [] Try.func165 C165_ok C165_res C165_nm 49 Try.ntmps165 [a0, a1, a2] [a0, a1, a2, .any, .any, .any, .any, .any, .any, .any, .any, .any, .any, .any, .any, .any, .any, .any, .any, .any, .any, .any, .any, .any, .any, .any, .any, .any, .any, .any, .any, .any, .any, .any, .any, .any, .any, .any, .any, .any, .any, .any, .any, .any, .any, .any, .any, .any, .any] H Q h 46 (by kernel_rfl) (by kernel_rfl)

/-- slices.siftDownOrdered[string] -/
def C181 : CC :=
 (.seq (.ops [⟨some 10, none, .mv (.tmp 1)⟩,
   ⟨some 8, none, .mv (.tmp 10)⟩])
 (.block 0 (.loop (.block 1 (.seq (.ops [⟨some 11, none, .mv (.tmp 8)⟩,
      ⟨some 12, none, .bin .mul 0 (.const (.int .i64 2)) (.tmp 11)⟩,
      ⟨some 13, none, .bin .add 0 (.tmp 12) (.const (.int .i64 1))⟩,
      ⟨some 9, none, .mv (.tmp 13)⟩])
    (.seq (.seq (.ops [⟨some 14, none, .mv (.tmp 9)⟩,
       ⟨some 15, none, .mv (.tmp 2)⟩,
       ⟨some 16, none, .bin .geq 0 (.tmp 14) (.tmp 15)⟩])
     (.cond (.tmp 16) (.exit 0)
     .skip))
    (.seq (.seq (.draw 20 [⟨some 17, none, .mv (.tmp 9)⟩,
       ⟨some 18, none, .bin .add 0 (.tmp 17) (.const (.int .i64 1))⟩,
       ⟨some 19, none, .mv (.tmp 2)⟩,
       ⟨some 20, none, .bin .lss 0 (.tmp 18) (.tmp 19)⟩,
       ⟨some 21, none, .mv (.tmp 20)⟩,
       ⟨some 22, some (21, true), .mv (.tmp 0)⟩,
       ⟨some 23, some (21, true), .mv (.tmp 3)⟩,
       ⟨some 24, some (21, true), .mv (.tmp 9)⟩,
       ⟨some 25, some (21, true), .bin .add 0 (.tmp 23) (.tmp 24)⟩,
       ⟨some 26, some (21, true), .ia 1 (.tmp 22) (.tmp 25)⟩,
       ⟨some 27, some (21, true), .load false 1 (.tmp 26)⟩,
       ⟨some 28, some (21, true), .mv (.tmp 0)⟩,
       ⟨some 29, some (21, true), .mv (.tmp 3)⟩,
       ⟨some 30, some (21, true), .mv (.tmp 9)⟩,
       ⟨some 31, some (21, true), .bin .add 0 (.tmp 29) (.tmp 30)⟩,
       ⟨some 32, some (21, true), .bin .add 0 (.tmp 31) (.const (.int .i64 1))⟩,
       ⟨some 33, some (21, true), .ia 1 (.tmp 28) (.tmp 32)⟩,
       ⟨some 34, some (21, true), .load false 1 (.tmp 33)⟩,
       ⟨some 35, some (21, true), .call (.func 171) [(.tmp 27), (.tmp 34)]⟩,
       ⟨some 36, none, .pick (.tmp 21) (.tmp 35) (.const (.bool false))⟩])
     (.cond (.tmp 36) (.ops [⟨some 37, none, .mv (.tmp 9)⟩,
       ⟨some 38, none, .bin .add 0 (.tmp 37) (.const (.int .i64 1))⟩,
       ⟨some 9, none, .mv (.tmp 38)⟩])
     .skip))
    (.seq (.seq (.draw 14 [⟨some 39, none, .mv (.tmp 0)⟩,
       ⟨some 40, none, .mv (.tmp 3)⟩,
       ⟨some 41, none, .mv (.tmp 8)⟩,
       ⟨some 42, none, .bin .add 0 (.tmp 40) (.tmp 41)⟩,
       ⟨some 43, none, .ia 1 (.tmp 39) (.tmp 42)⟩,
       ⟨some 44, none, .load false 1 (.tmp 43)⟩,
       ⟨some 45, none, .mv (.tmp 0)⟩,
       ⟨some 46, none, .mv (.tmp 3)⟩,
       ⟨some 47, none, .mv (.tmp 9)⟩,
       ⟨some 48, none, .bin .add 0 (.tmp 46) (.tmp 47)⟩,
       ⟨some 49, none, .ia 1 (.tmp 45) (.tmp 48)⟩,
       ⟨some 50, none, .load false 1 (.tmp 49)⟩,
       ⟨some 51, none, .call (.func 171) [(.tmp 44), (.tmp 50)]⟩,
       ⟨some 52, none, .not (.tmp 51)⟩])
     (.cond (.tmp 52) .ret
     .skip))
    (.seq (.loud 22 (.alt (.step ⟨some 65, none, .ia 1 (.tmp 61) (.tmp 64)⟩ (.alt (.step ⟨some 66, none, .load false 1 (.tmp 65)⟩ (.step ⟨some 72, none, .load false 1 (.tmp 71)⟩ (.step ⟨some 73, none, .ia 1 (.tmp 53) (.tmp 56)⟩ (.step ⟨none, none, .store 1 (.tmp 73) (.tmp 66)⟩ .leaf))))
      (.step ⟨some 72, none, .load false 1 (.tmp 71)⟩ (.step ⟨some 66, none, .load false 1 (.tmp 65)⟩ (.step ⟨some 73, none, .ia 1 (.tmp 53) (.tmp 56)⟩ (.step ⟨none, none, .store 1 (.tmp 73) (.tmp 66)⟩ .leaf))))))
      (.step ⟨some 72, none, .load false 1 (.tmp 71)⟩ (.step ⟨some 65, none, .ia 1 (.tmp 61) (.tmp 64)⟩ (.step ⟨some 66, none, .load false 1 (.tmp 65)⟩ (.step ⟨some 73, none, .ia 1 (.tmp 53) (.tmp 56)⟩ (.step ⟨none, none, .store 1 (.tmp 73) (.tmp 66)⟩ .leaf))))))
      [⟨some 53, none, .mv (.tmp 0)⟩, 
     ⟨some 54, none, .mv (.tmp 3)⟩, 
     ⟨some 55, none, .mv (.tmp 8)⟩, 
     ⟨some 56, none, .bin .add 0 (.tmp 54) (.tmp 55)⟩, 
     ⟨some 57, none, .mv (.tmp 0)⟩, 
     ⟨some 58, none, .mv (.tmp 3)⟩, 
     ⟨some 59, none, .mv (.tmp 9)⟩, 
     ⟨some 60, none, .bin .add 0 (.tmp 58) (.tmp 59)⟩, 
     ⟨some 61, none, .mv (.tmp 0)⟩, 
     ⟨some 62, none, .mv (.tmp 3)⟩, 
     ⟨some 63, none, .mv (.tmp 9)⟩, 
     ⟨some 64, none, .bin .add 0 (.tmp 62) (.tmp 63)⟩, 
     ⟨none, none, .mv (.const undef)⟩, 
     ⟨none, none, .mv (.const undef)⟩, 
     ⟨some 67, none, .mv (.tmp 0)⟩, 
     ⟨some 68, none, .mv (.tmp 3)⟩, 
     ⟨some 69, none, .mv (.tmp 8)⟩, 
     ⟨some 70, none, .bin .add 0 (.tmp 68) (.tmp 69)⟩, 
     ⟨some 71, none, .ia 1 (.tmp 67) (.tmp 70)⟩, 
     ⟨none, none, .mv (.const undef)⟩, 
     ⟨none, none, .mv (.const undef)⟩, 
     ⟨none, none, .mv (.const undef)⟩]
      [⟨some 74, none, .ia 1 (.tmp 57) (.tmp 60)⟩, ⟨none, none, .store 1 (.tmp 74) (.tmp 72)⟩])
    (.ops [⟨some 75, none, .mv (.tmp 9)⟩,
     ⟨some 8, none, .mv (.tmp 75)⟩]))))))))))
theorem C181_ok : Try.f181.body.bind (comp Try.prog) = some C181 := by kernel_rfl
theorem C181_res : compRs Try.prog Try.f181.results.toList = some [] := by kernel_rfl
theorem C181_nm : (Try.f181.name == "runtime.NumGoroutine") = false := by kernel_rfl
theorem C181_fn {a0 a1 a2 a3 : AV} {H : Heap} {Q : AV → Heap → Prop} (h : vc Try.prog C181 (vcEnd [] Q) H [a0, a1, a2, a3, .any, .any, .any, .any, .any, .any, .any, .any, .any, .any, .any, .any, .any, .any, .any, .any, .any, .any, .any, .any, .any, .any, .any, .any, .any, .any, .any, .any, .any, .any, .any, .any, .any, .any, .any, .any, .any, .any, .any, .any, .any, .any, .any, .any, .any, .any, .any, .any, .any, .any, .any, .any, .any, .any, .any, .any, .any, .any, .any, .any, .any, .any, .any, .any, .any, .any, .any, .any, .any, .any, .any, .any]) : Runs Try.prog 181 [a0, a1, a2, a3] H Q :=
  @fn_go Try.prog mixed 181 Try.f181 C181 [] Try.func181 C181_ok C181_res C181_nm 76 Try.ntmps181 [a0, a1, a2, a3] [a0, a1, a2, a3, .any, .any, .any, .any, .any, .any, .any, .any, .any, .any, .any, .any, .any, .any, .any, .any, .any, .any, .any, .any, .any, .any, .any, .any, .any, .any, .any, .any, .any, .any, .any, .any, .any, .any, .any, .any, .any, .any, .any, .any, .any, .any, .any, .any, .any, .any, .any, .any, .any, .any, .any, .any, .any, .any, .any, .any, .any, .any, .any, .any, .any, .any, .any, .any, .any, .any, .any, .any, .any, .any, .any, .any] H Q h 72 (by kernel_rfl) (by kernel_rfl)

/-- slices.heapSortOrdered[string] -/
def C166 : CC :=
 (.seq (.ops [⟨some 11, none, .mv (.tmp 1)⟩,
   ⟨some 6, none, .mv (.tmp 11)⟩])
 (.seq (.ops [⟨some 7, none, .mv (.const (.int .i64 0))⟩])
 (.seq (.ops [⟨some 12, none, .mv (.tmp 2)⟩,
   ⟨some 13, none, .mv (.tmp 1)⟩,
   ⟨some 14, none, .bin .sub 0 (.tmp 12) (.tmp 13)⟩,
   ⟨some 8, none, .mv (.tmp 14)⟩])
 (.seq (.seq (.ops [⟨some 15, none, .mv (.tmp 8)⟩,
    ⟨some 16, none, .bin .sub 0 (.tmp 15) (.const (.int .i64 1))⟩,
    ⟨some 17, none, .bin .quo 0 (.tmp 16) (.const (.int .i64 2))⟩,
    ⟨some 9, none, .mv (.tmp 17)⟩])
  (.block 0 (.loop (.seq (.seq (.ops [⟨some 18, none, .mv (.tmp 9)⟩,
       ⟨some 19, none, .bin .geq 0 (.tmp 18) (.const (.int .i64 0))⟩])
     (.cond (.tmp 19) .skip
     (.exit 0)))
    (.seq (.block 1 (.ops [⟨some 22, none, .mv (.tmp 0)⟩,
       ⟨some 23, none, .mv (.tmp 9)⟩,
       ⟨some 24, none, .mv (.tmp 8)⟩,
       ⟨some 25, none, .mv (.tmp 6)⟩,
       ⟨some 26, none, .call (.func 181) [(.tmp 22), (.tmp 23), (.tmp 24), (.tmp 25)]⟩]))
    (.ops [⟨some 20, none, .mv (.tmp 9)⟩,
     ⟨some 21, none, .bin .sub 0 (.tmp 20) (.const (.int .i64 1))⟩,
     ⟨some 9, none, .mv (.tmp 21)⟩]))))))
 (.seq (.ops [⟨some 27, none, .mv (.tmp 8)⟩,
   ⟨some 28, none, .bin .sub 0 (.tmp 27) (.const (.int .i64 1))⟩,
   ⟨some 10, none, .mv (.tmp 28)⟩])
 (.block 2 (.loop (.seq (.seq (.ops [⟨some 29, none, .mv (.tmp 10)⟩,
      ⟨some 30, none, .bin .geq 0 (.tmp 29) (.const (.int .i64 0))⟩])
    (.cond (.tmp 30) .skip
    (.exit 2)))
   (.seq (.block 3 (.seq (.loud 18 (.alt (.step ⟨some 43, none, .ia 1 (.tmp 39) (.tmp 42)⟩ (.alt (.step ⟨some 44, none, .load false 1 (.tmp 43)⟩ (.step ⟨some 48, none, .load false 1 (.tmp 47)⟩ (.step ⟨some 49, none, .ia 1 (.tmp 33) (.tmp 34)⟩ (.step ⟨none, none, .store 1 (.tmp 49) (.tmp 44)⟩ .leaf))))
       (.step ⟨some 48, none, .load false 1 (.tmp 47)⟩ (.step ⟨some 44, none, .load false 1 (.tmp 43)⟩ (.step ⟨some 49, none, .ia 1 (.tmp 33) (.tmp 34)⟩ (.step ⟨none, none, .store 1 (.tmp 49) (.tmp 44)⟩ .leaf))))))
       (.step ⟨some 48, none, .load false 1 (.tmp 47)⟩ (.step ⟨some 43, none, .ia 1 (.tmp 39) (.tmp 42)⟩ (.step ⟨some 44, none, .load false 1 (.tmp 43)⟩ (.step ⟨some 49, none, .ia 1 (.tmp 33) (.tmp 34)⟩ (.step ⟨none, none, .store 1 (.tmp 49) (.tmp 44)⟩ .leaf))))))
       [⟨some 33, none, .mv (.tmp 0)⟩, 
      ⟨some 34, none, .mv (.tmp 6)⟩, 
      ⟨some 35, none, .mv (.tmp 0)⟩, 
      ⟨some 36, none, .mv (.tmp 6)⟩, 
      ⟨some 37, none, .mv (.tmp 10)⟩, 
      ⟨some 38, none, .bin .add 0 (.tmp 36) (.tmp 37)⟩, 
      ⟨some 39, none, .mv (.tmp 0)⟩, 
      ⟨some 40, none, .mv (.tmp 6)⟩, 
      ⟨some 41, none, .mv (.tmp 10)⟩, 
      ⟨some 42, none, .bin .add 0 (.tmp 40) (.tmp 41)⟩, 
      ⟨none, none, .mv (.const undef)⟩, 
      ⟨none, none, .mv (.const undef)⟩, 
      ⟨some 45, none, .mv (.tmp 0)⟩, 
      ⟨some 46, none, .mv (.tmp 6)⟩, 
      ⟨some 47, none, .ia 1 (.tmp 45) (.tmp 46)⟩, 
      ⟨none, none, .mv (.const undef)⟩, 
      ⟨none, none, .mv (.const undef)⟩, 
      ⟨none, none, .mv (.const undef)⟩]
       [⟨some 50, none, .ia 1 (.tmp 35) (.tmp 38)⟩, ⟨none, none, .store 1 (.tmp 50) (.tmp 48)⟩])
     (.ops [⟨some 51, none, .mv (.tmp 0)⟩,
      ⟨some 52, none, .mv (.tmp 7)⟩,
      ⟨some 53, none, .mv (.tmp 10)⟩,
      ⟨some 54, none, .mv (.tmp 6)⟩,
      ⟨some 55, none, .call (.func 181) [(.tmp 51), (.tmp 52), (.tmp 53), (.tmp 54)]⟩])))
   (.ops [⟨some 31, none, .mv (.tmp 10)⟩,
    ⟨some 32, none, .bin .sub 0 (.tmp 31) (.const (.int .i64 1))⟩,
    ⟨some 10, none, .mv (.tmp 32)⟩]))))))))))
theorem C166_ok : Try.f166.body.bind (comp Try.prog) = some C166 := by kernel_rfl
theorem C166_res : compRs Try.prog Try.f166.results.toList = some [] := by kernel_rfl
theorem C166_nm : (Try.f166.name == "runtime.NumGoroutine") = false := by kernel_rfl
theorem C166_fn {a0 a1 a2 : AV} {H : Heap} {Q : AV → Heap → Prop} (h : vc Try.prog C166 (vcEnd [] Q) H [a0, a1, a2, .any, .any, .any, .any, .any, .any, .any, .any, .any, .any, .any, .any, .any, .any, .any, .any, .any, .any, .any, .any, .any, .any, .any, .any, .any, .any, .any, .any, .any, .any, .any, .any, .any, .any, .any, .any, .any, .any, .any, .any, .any, .any, .any, .any, .any, .any, .any, .any, .any, .any, .any, .any, .any]) : Runs Try.prog 166 [a0, a1, a2] H Q :=
  @fn_go Try.prog mixed 166 Try.f166 C166 [] Try.func166 C166_ok C166_res C166_nm 56 Try.ntmps166 [a0, a1, a2] [a0, a1, a2, .any, .any, .any, .any, .any, .any, .any, .any, .any, .any, .any, .any, .any, .any, .any, .any, .any, .any, .any, .any, .any, .any, .any, .any, .any, .any, .any, .any, .any, .any, .any, .any, .any, .any, .any, .any, .any, .any, .any, .any, .any, .any, .any, .any, .any, .any, .any, .any, .any, .any, .any, .any, .any] H Q h 53 (by kernel_rfl) (by kernel_rfl)

/-- math/bits.Len32 -/
def C174 : CC :=
 (.seq (.ops [⟨some 2, none, .mv (.const (.int .i64 0))⟩])
 (.seq (.seq (.ops [⟨some 3, none, .mv (.tmp 0)⟩,
    ⟨some 4, none, .bin .geq 0 (.tmp 3) (.const (.int .u32 65536))⟩])
  (.cond (.tmp 4) (.seq (.ops [⟨some 5, none, .mv (.tmp 0)⟩,
     ⟨some 6, none, .bin .shr 0 (.tmp 5) (.const (.int .u64 16))⟩,
     ⟨some 0, none, .mv (.tmp 6)⟩])
   (.ops [⟨some 2, none, .mv (.const (.int .i64 16))⟩]))
  .skip))
 (.seq (.seq (.ops [⟨some 7, none, .mv (.tmp 0)⟩,
    ⟨some 8, none, .bin .geq 0 (.tmp 7) (.const (.int .u32 256))⟩])
  (.cond (.tmp 8) (.seq (.ops [⟨some 9, none, .mv (.tmp 0)⟩,
     ⟨some 10, none, .bin .shr 0 (.tmp 9) (.const (.int .u64 8))⟩,
     ⟨some 0, none, .mv (.tmp 10)⟩])
   (.ops [⟨some 11, none, .mv (.tmp 2)⟩,
    ⟨some 12, none, .bin .add 0 (.tmp 11) (.const (.int .i64 8))⟩,
    ⟨some 2, none, .mv (.tmp 12)⟩]))
  .skip))
 (.seq (.ops [⟨some 13, none, .mv (.tmp 2)⟩,
   ⟨some 14, none, .mv (.tmp 0)⟩,
   ⟨some 15, none, .conv .u8 (.tmp 14)⟩,
   ⟨some 16, none, .idx (.const (.string ⟨#[0, 1, 2, 2, 3, 3, 3, 3, 4, 4, 4, 4, 4, 4, 4, 4, 5, 5, 5, 5, 5, 5, 5, 5, 5, 5, 5, 5, 5, 5, 5, 5, 6, 6, 6, 6, 6, 6, 6, 6, 6, 6, 6, 6, 6, 6, 6, 6, 6, 6, 6, 6, 6, 6, 6, 6, 6, 6, 6, 6, 6, 6, 6, 6, 7, 7, 7, 7, 7, 7, 7, 7, 7, 7, 7, 7, 7, 7, 7, 7, 7, 7, 7, 7, 7, 7, 7, 7, 7, 7, 7, 7, 7, 7, 7, 7, 7, 7, 7, 7, 7, 7, 7, 7, 7, 7, 7, 7, 7, 7, 7, 7, 7, 7, 7, 7, 7, 7, 7, 7, 7, 7, 7, 7, 7, 7, 7, 7, 8, 8, 8, 8, 8, 8, 8, 8, 8, 8, 8, 8, 8, 8, 8, 8, 8, 8, 8, 8, 8, 8, 8, 8, 8, 8, 8, 8, 8, 8, 8, 8, 8, 8, 8, 8, 8, 8, 8, 8, 8, 8, 8, 8, 8, 8, 8, 8, 8, 8, 8, 8, 8, 8, 8, 8, 8, 8, 8, 8, 8, 8, 8, 8, 8, 8, 8, 8, 8, 8, 8, 8, 8, 8, 8, 8, 8, 8, 8, 8, 8, 8, 8, 8, 8, 8, 8, 8, 8, 8, 8, 8, 8, 8, 8, 8, 8, 8, 8, 8, 8, 8, 8, 8, 8, 8, 8, 8, 8, 8, 8, 8, 8, 8, 8, 8, 8, 8, 8, 8, 8, 8, 8, 8, 8, 8, 8, 8]⟩)) (.tmp 15)⟩,
   ⟨some 17, none, .conv .i64 (.tmp 16)⟩,
   ⟨some 18, none, .bin .add 0 (.tmp 13) (.tmp 17)⟩,
   ⟨some 2, none, .mv (.tmp 18)⟩])
 .ret))))
theorem C174_ok : Try.f174.body.bind (comp Try.prog) = some C174 := by kernel_rfl
theorem C174_res : compRs Try.prog Try.f174.results.toList = some [.tmp 2] := by kernel_rfl
theorem C174_nm : (Try.f174.name == "runtime.NumGoroutine") = false := by kernel_rfl
theorem C174_fn {a0 : AV} {H : Heap} {Q : AV → Heap → Prop} (h : vc Try.prog C174 (vcEnd [.tmp 2] Q) H [a0, .any, .any, .any, .any, .any, .any, .any, .any, .any, .any, .any, .any, .any, .any, .any, .any, .any, .any]) : Runs Try.prog 174 [a0] H Q :=
  @fn_go Try.prog mixed 174 Try.f174 C174 [.tmp 2] Try.func174 C174_ok C174_res C174_nm 19 Try.ntmps174 [a0] [a0, .any, .any, .any, .any, .any, .any, .any, .any, .any, .any, .any, .any, .any, .any, .any, .any, .any, .any] H Q h 18 (by kernel_rfl) (by kernel_rfl)

/-- math/bits.Len64 -/
def C175 : CC :=
 (.seq (.ops [⟨some 2, none, .mv (.const (.int .i64 0))⟩])
 (.seq (.seq (.ops [⟨some 3, none, .mv (.tmp 0)⟩,
    ⟨some 4, none, .bin .geq 0 (.tmp 3) (.const (.int .u64 4294967296))⟩])
  (.cond (.tmp 4) (.seq (.ops [⟨some 5, none, .mv (.tmp 0)⟩,
     ⟨some 6, none, .bin .shr 0 (.tmp 5) (.const (.int .u64 32))⟩,
     ⟨some 0, none, .mv (.tmp 6)⟩])
   (.ops [⟨some 2, none, .mv (.const (.int .i64 32))⟩]))
  .skip))
 (.seq (.seq (.ops [⟨some 7, none, .mv (.tmp 0)⟩,
    ⟨some 8, none, .bin .geq 0 (.tmp 7) (.const (.int .u64 65536))⟩])
  (.cond (.tmp 8) (.seq (.ops [⟨some 9, none, .mv (.tmp 0)⟩,
     ⟨some 10, none, .bin .shr 0 (.tmp 9) (.const (.int .u64 16))⟩,
     ⟨some 0, none, .mv (.tmp 10)⟩])
   (.ops [⟨some 11, none, .mv (.tmp 2)⟩,
    ⟨some 12, none, .bin .add 0 (.tmp 11) (.const (.int .i64 16))⟩,
    ⟨some 2, none, .mv (.tmp 12)⟩]))
  .skip))
 (.seq (.seq (.ops [⟨some 13, none, .mv (.tmp 0)⟩,
    ⟨some 14, none, .bin .geq 0 (.tmp 13) (.const (.int .u64 256))⟩])
  (.cond (.tmp 14) (.seq (.ops [⟨some 15, none, .mv (.tmp 0)⟩,
     ⟨some 16, none, .bin .shr 0 (.tmp 15) (.const (.int .u64 8))⟩,
     ⟨some 0, none, .mv (.tmp 16)⟩])
   (.ops [⟨some 17, none, .mv (.tmp 2)⟩,
    ⟨some 18, none, .bin .add 0 (.tmp 17) (.const (.int .i64 8))⟩,
    ⟨some 2, none, .mv (.tmp 18)⟩]))
  .skip))
 (.seq (.ops [⟨some 19, none, .mv (.tmp 2)⟩,
   ⟨some 20, none, .mv (.tmp 0)⟩,
   ⟨some 21, none, .conv .u8 (.tmp 20)⟩,
   ⟨some 22, none, .idx (.const (.string ⟨#[0, 1, 2, 2, 3, 3, 3, 3, 4, 4, 4, 4, 4, 4, 4, 4, 5, 5, 5, 5, 5, 5, 5, 5, 5, 5, 5, 5, 5, 5, 5, 5, 6, 6, 6, 6, 6, 6, 6, 6, 6, 6, 6, 6, 6, 6, 6, 6, 6, 6, 6, 6, 6, 6, 6, 6, 6, 6, 6, 6, 6, 6, 6, 6, 7, 7, 7, 7, 7, 7, 7, 7, 7, 7, 7, 7, 7, 7, 7, 7, 7, 7, 7, 7, 7, 7, 7, 7, 7, 7, 7, 7, 7, 7, 7, 7, 7, 7, 7, 7, 7, 7, 7, 7, 7, 7, 7, 7, 7, 7, 7, 7, 7, 7, 7, 7, 7, 7, 7, 7, 7, 7, 7, 7, 7, 7, 7, 7, 8, 8, 8, 8, 8, 8, 8, 8, 8, 8, 8, 8, 8, 8, 8, 8, 8, 8, 8, 8, 8, 8, 8, 8, 8, 8, 8, 8, 8, 8, 8, 8, 8, 8, 8, 8, 8, 8, 8, 8, 8, 8, 8, 8, 8, 8, 8, 8, 8, 8, 8, 8, 8, 8, 8, 8, 8, 8, 8, 8, 8, 8, 8, 8, 8, 8, 8, 8, 8, 8, 8, 8, 8, 8, 8, 8, 8, 8, 8, 8, 8, 8, 8, 8, 8, 8, 8, 8, 8, 8, 8, 8, 8, 8, 8, 8, 8, 8, 8, 8, 8, 8, 8, 8, 8, 8, 8, 8, 8, 8, 8, 8, 8, 8, 8, 8, 8, 8, 8, 8, 8, 8, 8, 8, 8, 8, 8, 8]⟩)) (.tmp 21)⟩,
   ⟨some 23, none, .conv .i64 (.tmp 22)⟩,
   ⟨some 24, none, .bin .add 0 (.tmp 19) (.tmp 23)⟩,
   ⟨some 2, none, .mv (.tmp 24)⟩])
 .ret)))))
theorem C175_ok : Try.f175.body.bind (comp Try.prog) = some C175 := by kernel_rfl
theorem C175_res : compRs Try.prog Try.f175.results.toList = some [.tmp 2] := by kernel_rfl
theorem C175_nm : (Try.f175.name == "runtime.NumGoroutine") = false := by kernel_rfl
theorem C175_fn {a0 : AV} {H : Heap} {Q : AV → Heap → Prop} (h : vc Try.prog C175 (vcEnd [.tmp 2] Q) H [a0, .any, .any, .any, .any, .any, .any, .any, .any, .any, .any, .any, .any, .any, .any, .any, .any, .any, .any, .any, .any, .any, .any, .any, .any]) : Runs Try.prog 175 [a0] H Q :=
  @fn_go Try.prog mixed 175 Try.f175 C175 [.tmp 2] Try.func175 C175_ok C175_res C175_nm 25 Try.ntmps175 [a0] [a0, .any, .any, .any, .any, .any, .any, .any, .any, .any, .any, .any, .any, .any, .any, .any, .any, .any, .any, .any, .any, .any, .any, .any, .any] H Q h 24 (by kernel_rfl) (by kernel_rfl)

end Go.Proofs.Ytpaflfaokgapgaa
