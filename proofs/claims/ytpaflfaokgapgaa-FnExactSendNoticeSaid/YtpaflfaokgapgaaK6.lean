/- The code of the functions, in the form of our laws; each is the program's own, by the kernel. Written by a program of ours. -/
import Derived.Test.YtpaflfaokgapgaaB0
import Derived.KernelRfl
namespace Go.Proofs.Ytpaflfaokgapgaa
open Go.Abs

/-- spec.IsCover -/
def C98 : CC :=
 (.seq (.ops [⟨some 2, none, .mv (.const (.bool false))⟩])
 (.seq (.seq (.ops [⟨some 3, none, .mv (.const (.int .i64 0))⟩])
  (.block 0 (.loop (.seq (.seq (.ops [⟨some 5, none, .mv (.tmp 3)⟩,
       ⟨some 6, none, .mv (.tmp 0)⟩,
       ⟨some 7, none, .len false (.tmp 6)⟩,
       ⟨some 8, none, .bin .lss 0 (.tmp 5) (.tmp 7)⟩])
     (.cond (.tmp 8) .skip
     (.exit 0)))
    (.seq (.block 1 (.seq (.ops [⟨some 11, none, .mv (.tmp 0)⟩,
        ⟨some 12, none, .mv (.tmp 3)⟩,
        ⟨some 13, none, .ia 3 (.tmp 11) (.tmp 12)⟩,
        ⟨some 14, none, .load true 3 (.tmp 13)⟩,
        ⟨some 4, none, .alloc [.string ⟨#[]⟩, .string ⟨#[]⟩, .int .i64 0]⟩,
        ⟨none, none, .store 3 (.tmp 4) (.tmp 14)⟩])
      (.seq (.draw 31 [⟨some 15, none, .fa 0 (.tmp 4)⟩,
        ⟨some 16, none, .load false 1 (.tmp 15)⟩,
        ⟨some 17, none, .call (.func 71) [(.tmp 16)]⟩,
        ⟨some 18, none, .not (.tmp 17)⟩,
        ⟨some 19, none, .mv (.tmp 18)⟩,
        ⟨some 20, some (19, false), .fa 1 (.tmp 4)⟩,
        ⟨some 21, some (19, false), .load false 1 (.tmp 20)⟩,
        ⟨some 22, some (19, false), .call (.func 71) [(.tmp 21)]⟩,
        ⟨some 23, some (19, false), .not (.tmp 22)⟩,
        ⟨some 24, none, .pick (.tmp 19) (.const (.bool true)) (.tmp 23)⟩,
        ⟨some 25, none, .mv (.tmp 24)⟩,
        ⟨some 26, some (25, false), .fa 2 (.tmp 4)⟩,
        ⟨some 27, some (25, false), .load false 1 (.tmp 26)⟩,
        ⟨some 28, some (25, false), .call (.func 105) [(.tmp 27)]⟩,
        ⟨some 29, some (25, false), .not (.tmp 28)⟩,
        ⟨some 30, none, .pick (.tmp 25) (.const (.bool true)) (.tmp 29)⟩,
        ⟨some 31, none, .mv (.tmp 30)⟩,
        ⟨some 32, some (31, false), .mv (.tmp 3)⟩,
        ⟨some 33, some (31, false), .bin .gtr 0 (.tmp 32) (.const (.int .i64 0))⟩,
        ⟨some 34, some (31, false), .mv (.tmp 33)⟩,
        ⟨some 35, some (34, true), .mv (.tmp 0)⟩,
        ⟨some 36, some (34, true), .mv (.tmp 3)⟩,
        ⟨some 37, some (34, true), .bin .sub 0 (.tmp 36) (.const (.int .i64 1))⟩,
        ⟨some 38, some (34, true), .ia 3 (.tmp 35) (.tmp 37)⟩,
        ⟨some 39, some (34, true), .fa 0 (.tmp 38)⟩,
        ⟨some 40, some (34, true), .load false 1 (.tmp 39)⟩,
        ⟨some 41, some (34, true), .fa 0 (.tmp 4)⟩,
        ⟨some 42, some (34, true), .load false 1 (.tmp 41)⟩,
        ⟨some 43, some (34, true), .bin .geq 0 (.tmp 40) (.tmp 42)⟩,
        ⟨some 44, some (31, false), .pick (.tmp 34) (.tmp 43) (.const (.bool false))⟩,
        ⟨some 45, none, .pick (.tmp 31) (.const (.bool true)) (.tmp 44)⟩])
      (.cond (.tmp 45) (.seq (.ops [⟨some 2, none, .mv (.const (.bool false))⟩])
       .ret)
      .skip))))
    (.ops [⟨some 9, none, .mv (.tmp 3)⟩,
     ⟨some 10, none, .bin .add 0 (.tmp 9) (.const (.int .i64 1))⟩,
     ⟨some 3, none, .mv (.tmp 10)⟩]))))))
 (.seq (.ops [⟨some 46, none, .mv (.tmp 0)⟩,
   ⟨some 47, none, .len false (.tmp 46)⟩,
   ⟨some 48, none, .bin .leq 0 (.tmp 47) (.const (.int .i64 10))⟩,
   ⟨some 2, none, .mv (.tmp 48)⟩])
 .ret)))
theorem C98_ok : Try.f98.body.bind (comp Try.prog) = some C98 := by kernel_rfl
theorem C98_res : compRs Try.prog Try.f98.results.toList = some [.tmp 2] := by kernel_rfl
theorem C98_nm : (Try.f98.name == "runtime.NumGoroutine") = false := by kernel_rfl
theorem C98_fn {a0 : AV} {H : Heap} {Q : AV → Heap → Prop} (h : vc Try.prog C98 (vcEnd [.tmp 2] Q) H [a0, .any, .any, .any, .any, .any, .any, .any, .any, .any, .any, .any, .any, .any, .any, .any, .any, .any, .any, .any, .any, .any, .any, .any, .any, .any, .any, .any, .any, .any, .any, .any, .any, .any, .any, .any, .any, .any, .any, .any, .any, .any, .any, .any, .any, .any, .any, .any, .any]) : Runs Try.prog 98 [a0] H Q :=
  @fn_go Try.prog mixed 98 Try.f98 C98 [.tmp 2] Try.func98 C98_ok C98_res C98_nm 49 Try.ntmps98 [a0] [a0, .any, .any, .any, .any, .any, .any, .any, .any, .any, .any, .any, .any, .any, .any, .any, .any, .any, .any, .any, .any, .any, .any, .any, .any, .any, .any, .any, .any, .any, .any, .any, .any, .any, .any, .any, .any, .any, .any, .any, .any, .any, .any, .any, .any, .any, .any, .any, .any] H Q h 48 (by kernel_rfl) (by kernel_rfl)

/-- spec.AddPolicy -/
def C46 : CC :=
 (.seq (.ops [⟨some 3, none, .box (.tmp 1)⟩,
   ⟨some 4, none, .mv (.const (.slice none 0 0))⟩,
   ⟨some 5, none, .mv (.const (.int .i64 0))⟩])
 (.seq (.seq (.ops [⟨some 8, none, .mv (.tmp 0)⟩,
    ⟨some 9, none, .call (.func 98) [(.tmp 8)]⟩,
    ⟨some 10, none, .not (.tmp 9)⟩])
  (.cond (.tmp 10) (.seq (.ops [⟨some 4, none, .mv (.const (.slice none 0 0))⟩,
     ⟨some 5, none, .mv (.const (.int .i64 1))⟩])
   .ret)
  .skip))
 (.seq (.ops [⟨some 6, none, .mv (.const (.int .i64 0))⟩])
 (.seq (.block 0 (.loop (.seq (.seq (.draw 14 [⟨some 11, none, .mv (.tmp 6)⟩,
       ⟨some 12, none, .mv (.tmp 0)⟩,
       ⟨some 13, none, .len false (.tmp 12)⟩,
       ⟨some 14, none, .bin .lss 0 (.tmp 11) (.tmp 13)⟩,
       ⟨some 15, none, .mv (.tmp 14)⟩,
       ⟨some 16, some (15, true), .mv (.tmp 0)⟩,
       ⟨some 17, some (15, true), .mv (.tmp 6)⟩,
       ⟨some 18, some (15, true), .ia 3 (.tmp 16) (.tmp 17)⟩,
       ⟨some 19, some (15, true), .fa 0 (.tmp 18)⟩,
       ⟨some 20, some (15, true), .load false 1 (.tmp 19)⟩,
       ⟨some 21, some (15, true), .fa 0 (.tmp 3)⟩,
       ⟨some 22, some (15, true), .load false 1 (.tmp 21)⟩,
       ⟨some 23, some (15, true), .bin .lss 0 (.tmp 20) (.tmp 22)⟩,
       ⟨some 24, none, .pick (.tmp 15) (.tmp 23) (.const (.bool false))⟩])
     (.cond (.tmp 24) .skip
     (.exit 0)))
    (.block 1 (.ops [⟨some 25, none, .mv (.tmp 6)⟩,
      ⟨some 26, none, .bin .add 0 (.tmp 25) (.const (.int .i64 1))⟩,
      ⟨some 6, none, .mv (.tmp 26)⟩])))))
 (.seq (.loud 12 (.alt (.step ⟨some 27, none, .lit 3 []⟩ (.alt (.step ⟨some 31, none, .app 3 40 (.tmp 27) (.tmp 30)⟩ (.step ⟨some 33, none, .lit 3 [(.tmp 32)]⟩ (.step ⟨some 34, none, .app 3 40 (.tmp 31) (.tmp 33)⟩ (.step ⟨some 38, none, .app 3 40 (.tmp 34) (.tmp 37)⟩ .leaf))))
   (.step ⟨some 33, none, .lit 3 [(.tmp 32)]⟩ (.step ⟨some 31, none, .app 3 40 (.tmp 27) (.tmp 30)⟩ (.step ⟨some 34, none, .app 3 40 (.tmp 31) (.tmp 33)⟩ (.step ⟨some 38, none, .app 3 40 (.tmp 34) (.tmp 37)⟩ .leaf))))))
   (.step ⟨some 33, none, .lit 3 [(.tmp 32)]⟩ (.step ⟨some 27, none, .lit 3 []⟩ (.step ⟨some 31, none, .app 3 40 (.tmp 27) (.tmp 30)⟩ (.step ⟨some 34, none, .app 3 40 (.tmp 31) (.tmp 33)⟩ (.step ⟨some 38, none, .app 3 40 (.tmp 34) (.tmp 37)⟩ .leaf))))))
   [⟨none, none, .mv (.const undef)⟩, 
  ⟨some 28, none, .mv (.tmp 0)⟩, 
  ⟨some 29, none, .mv (.tmp 6)⟩, 
  ⟨some 30, none, .slc 3 (.tmp 28) none (some (.tmp 29))⟩, 
  ⟨none, none, .mv (.const undef)⟩, 
  ⟨some 32, none, .load true 3 (.tmp 3)⟩, 
  ⟨none, none, .mv (.const undef)⟩, 
  ⟨none, none, .mv (.const undef)⟩, 
  ⟨some 35, none, .mv (.tmp 0)⟩, 
  ⟨some 36, none, .mv (.tmp 6)⟩, 
  ⟨some 37, none, .slc 3 (.tmp 35) (some (.tmp 36)) none⟩, 
  ⟨none, none, .mv (.const undef)⟩]
   [⟨some 7, none, .mv (.tmp 38)⟩])
 (.seq (.seq (.ops [⟨some 39, none, .mv (.tmp 7)⟩,
    ⟨some 40, none, .call (.func 98) [(.tmp 39)]⟩,
    ⟨some 41, none, .not (.tmp 40)⟩])
  (.cond (.tmp 41) (.seq (.ops [⟨some 4, none, .mv (.const (.slice none 0 0))⟩,
     ⟨some 5, none, .mv (.const (.int .i64 5))⟩])
   .ret)
  .skip))
 (.seq (.ops [⟨some 42, none, .mv (.tmp 7)⟩,
   ⟨some 4, none, .mv (.tmp 42)⟩,
   ⟨some 5, none, .mv (.const (.int .i64 0))⟩])
 .ret)))))))
theorem C46_ok : Try.f46.body.bind (comp Try.prog) = some C46 := by kernel_rfl
theorem C46_res : compRs Try.prog Try.f46.results.toList = some [.tmp 4, .tmp 5] := by kernel_rfl
theorem C46_nm : (Try.f46.name == "runtime.NumGoroutine") = false := by kernel_rfl
theorem C46_fn {a0 a1 : AV} {H : Heap} {Q : AV → Heap → Prop} (h : vc Try.prog C46 (vcEnd [.tmp 4, .tmp 5] Q) H [a0, a1, .any, .any, .any, .any, .any, .any, .any, .any, .any, .any, .any, .any, .any, .any, .any, .any, .any, .any, .any, .any, .any, .any, .any, .any, .any, .any, .any, .any, .any, .any, .any, .any, .any, .any, .any, .any, .any, .any, .any, .any, .any]) : Runs Try.prog 46 [a0, a1] H Q :=
  @fn_go Try.prog mixed 46 Try.f46 C46 [.tmp 4, .tmp 5] Try.func46 C46_ok C46_res C46_nm 43 Try.ntmps46 [a0, a1] [a0, a1, .any, .any, .any, .any, .any, .any, .any, .any, .any, .any, .any, .any, .any, .any, .any, .any, .any, .any, .any, .any, .any, .any, .any, .any, .any, .any, .any, .any, .any, .any, .any, .any, .any, .any, .any, .any, .any, .any, .any, .any, .any] H Q h 41 (by kernel_rfl) (by kernel_rfl)

/-- laws.toPolicy -/
def C48 : CC :=
 (.seq (.ops [⟨some 1, none, .box (.tmp 0)⟩,
   ⟨some 2, none, .alloc [.string ⟨#[]⟩, .string ⟨#[]⟩, .int .i64 0]⟩])
 (.seq (.ops [⟨some 3, none, .alloc [.string ⟨#[]⟩, .string ⟨#[]⟩, .int .i64 0]⟩])
 (.seq (.ops [⟨some 4, none, .fa 0 (.tmp 1)⟩,
   ⟨some 5, none, .load false 1 (.tmp 4)⟩,
   ⟨some 6, none, .fa 0 (.tmp 3)⟩,
   ⟨none, none, .store 1 (.tmp 6) (.tmp 5)⟩])
 (.seq (.ops [⟨some 7, none, .fa 1 (.tmp 1)⟩,
   ⟨some 8, none, .load false 1 (.tmp 7)⟩,
   ⟨some 9, none, .fa 1 (.tmp 3)⟩,
   ⟨none, none, .store 1 (.tmp 9) (.tmp 8)⟩])
 (.seq (.ops [⟨some 10, none, .fa 2 (.tmp 1)⟩,
   ⟨some 11, none, .load false 1 (.tmp 10)⟩,
   ⟨some 12, none, .fa 2 (.tmp 3)⟩,
   ⟨none, none, .store 1 (.tmp 12) (.tmp 11)⟩])
 (.seq (.ops [⟨some 13, none, .load true 3 (.tmp 3)⟩,
   ⟨none, none, .store 3 (.tmp 2) (.tmp 13)⟩])
 .ret))))))
theorem C48_ok : Try.f48.body.bind (comp Try.prog) = some C48 := by kernel_rfl
theorem C48_res : compRs Try.prog Try.f48.results.toList = some [.cell true 3 2] := by kernel_rfl
theorem C48_nm : (Try.f48.name == "runtime.NumGoroutine") = false := by kernel_rfl
theorem C48_fn {a0 : AV} {H : Heap} {Q : AV → Heap → Prop} (h : vc Try.prog C48 (vcEnd [.cell true 3 2] Q) H [a0, .any, .any, .any, .any, .any, .any, .any, .any, .any, .any, .any, .any, .any]) : Runs Try.prog 48 [a0] H Q :=
  @fn_go Try.prog mixed 48 Try.f48 C48 [.cell true 3 2] Try.func48 C48_ok C48_res C48_nm 14 Try.ntmps48 [a0] [a0, .any, .any, .any, .any, .any, .any, .any, .any, .any, .any, .any, .any, .any] H Q h 13 (by kernel_rfl) (by kernel_rfl)

/-- laws.toPolicyS -/
def C47 : CC :=
 (.seq (.ops [⟨some 2, none, .mv (.const (.slice none 0 0))⟩])
 (.seq (.ops [⟨some 5, none, .mv (.tmp 0)⟩,
   ⟨some 6, none, .len false (.tmp 5)⟩,
   ⟨some 7, none, .mks [.string ⟨#[]⟩, .string ⟨#[]⟩, .int .i64 0] 40 (.tmp 6)⟩,
   ⟨some 3, none, .mv (.tmp 7)⟩])
 (.seq (.seq (.ops [⟨some 4, none, .mv (.const (.int .i64 0))⟩])
  (.block 0 (.loop (.seq (.seq (.ops [⟨some 8, none, .mv (.tmp 4)⟩,
       ⟨some 9, none, .mv (.tmp 0)⟩,
       ⟨some 10, none, .len false (.tmp 9)⟩,
       ⟨some 11, none, .bin .lss 0 (.tmp 8) (.tmp 10)⟩])
     (.cond (.tmp 11) .skip
     (.exit 0)))
    (.seq (.block 1 (.ops [⟨some 14, none, .mv (.tmp 3)⟩,
       ⟨some 15, none, .mv (.tmp 4)⟩,
       ⟨some 16, none, .mv (.tmp 0)⟩,
       ⟨some 17, none, .mv (.tmp 4)⟩,
       ⟨some 18, none, .ia 3 (.tmp 16) (.tmp 17)⟩,
       ⟨some 19, none, .load true 3 (.tmp 18)⟩,
       ⟨some 20, none, .call (.func 48) [(.tmp 19)]⟩,
       ⟨some 21, none, .ia 3 (.tmp 14) (.tmp 15)⟩,
       ⟨none, none, .store 3 (.tmp 21) (.tmp 20)⟩]))
    (.ops [⟨some 12, none, .mv (.tmp 4)⟩,
     ⟨some 13, none, .bin .add 0 (.tmp 12) (.const (.int .i64 1))⟩,
     ⟨some 4, none, .mv (.tmp 13)⟩]))))))
 (.seq (.ops [⟨some 22, none, .mv (.tmp 3)⟩,
   ⟨some 2, none, .mv (.tmp 22)⟩])
 .ret))))
theorem C47_ok : Try.f47.body.bind (comp Try.prog) = some C47 := by kernel_rfl
theorem C47_res : compRs Try.prog Try.f47.results.toList = some [.tmp 2] := by kernel_rfl
theorem C47_nm : (Try.f47.name == "runtime.NumGoroutine") = false := by kernel_rfl
theorem C47_fn {a0 : AV} {H : Heap} {Q : AV → Heap → Prop} (h : vc Try.prog C47 (vcEnd [.tmp 2] Q) H [a0, .any, .any, .any, .any, .any, .any, .any, .any, .any, .any, .any, .any, .any, .any, .any, .any, .any, .any, .any, .any, .any, .any]) : Runs Try.prog 47 [a0] H Q :=
  @fn_go Try.prog mixed 47 Try.f47 C47 [.tmp 2] Try.func47 C47_ok C47_res C47_nm 23 Try.ntmps47 [a0] [a0, .any, .any, .any, .any, .any, .any, .any, .any, .any, .any, .any, .any, .any, .any, .any, .any, .any, .any, .any, .any, .any, .any] H Q h 22 (by kernel_rfl) (by kernel_rfl)

/-- internal/bytealg.CompareString -/
def C157 : CC :=
 (.seq (.ops [⟨some 4, none, .mv (.const (.int .i64 0))⟩])
 (.seq (.ops [⟨some 5, none, .mv (.tmp 0)⟩,
   ⟨some 6, none, .mv (.tmp 1)⟩,
   ⟨some 7, none, .call (.func 178) [(.tmp 5), (.tmp 6)]⟩,
   ⟨some 4, none, .mv (.tmp 7)⟩])
 .ret))
theorem C157_ok : Try.f157.body.bind (comp Try.prog) = some C157 := by kernel_rfl
theorem C157_res : compRs Try.prog Try.f157.results.toList = some [.tmp 4] := by kernel_rfl
theorem C157_nm : (Try.f157.name == "runtime.NumGoroutine") = false := by kernel_rfl
theorem C157_fn {a0 a1 : AV} {H : Heap} {Q : AV → Heap → Prop} (h : vc Try.prog C157 (vcEnd [.tmp 4] Q) H [a0, a1, .any, .any, .any, .any, .any, .any]) : Runs Try.prog 157 [a0, a1] H Q :=
  @fn_go Try.prog mixed 157 Try.f157 C157 [.tmp 4] Try.func157 C157_ok C157_res C157_nm 8 Try.ntmps157 [a0, a1] [a0, a1, .any, .any, .any, .any, .any, .any] H Q h 6 (by kernel_rfl) (by kernel_rfl)

/-- strings.Compare -/
def C133 : CC :=
 (.seq (.ops [⟨some 4, none, .mv (.const (.int .i64 0))⟩])
 (.seq (.ops [⟨some 5, none, .mv (.tmp 0)⟩,
   ⟨some 6, none, .mv (.tmp 1)⟩,
   ⟨some 7, none, .call (.func 157) [(.tmp 5), (.tmp 6)]⟩,
   ⟨some 4, none, .mv (.tmp 7)⟩])
 .ret))
theorem C133_ok : Try.f133.body.bind (comp Try.prog) = some C133 := by kernel_rfl
theorem C133_res : compRs Try.prog Try.f133.results.toList = some [.tmp 4] := by kernel_rfl
theorem C133_nm : (Try.f133.name == "runtime.NumGoroutine") = false := by kernel_rfl
theorem C133_fn {a0 a1 : AV} {H : Heap} {Q : AV → Heap → Prop} (h : vc Try.prog C133 (vcEnd [.tmp 4] Q) H [a0, a1, .any, .any, .any, .any, .any, .any]) : Runs Try.prog 133 [a0, a1] H Q :=
  @fn_go Try.prog mixed 133 Try.f133 C133 [.tmp 4] Try.func133 C133_ok C133_res C133_nm 8 Try.ntmps133 [a0, a1] [a0, a1, .any, .any, .any, .any, .any, .any] H Q h 6 (by kernel_rfl) (by kernel_rfl)

/-- impl.comparePolicies -/
def C101 : CC :=
 (.seq (.ops [⟨some 2, none, .box (.tmp 0)⟩,
   ⟨some 3, none, .box (.tmp 1)⟩,
   ⟨some 4, none, .mv (.const (.int .i64 0))⟩])
 (.seq (.ops [⟨some 5, none, .fa 0 (.tmp 2)⟩,
   ⟨some 6, none, .load false 1 (.tmp 5)⟩,
   ⟨some 7, none, .fa 0 (.tmp 3)⟩,
   ⟨some 8, none, .load false 1 (.tmp 7)⟩,
   ⟨some 9, none, .call (.func 133) [(.tmp 6), (.tmp 8)]⟩,
   ⟨some 4, none, .mv (.tmp 9)⟩])
 .ret))
theorem C101_ok : Try.f101.body.bind (comp Try.prog) = some C101 := by kernel_rfl
theorem C101_res : compRs Try.prog Try.f101.results.toList = some [.tmp 4] := by kernel_rfl
theorem C101_nm : (Try.f101.name == "runtime.NumGoroutine") = false := by kernel_rfl
theorem C101_fn {a0 a1 : AV} {H : Heap} {Q : AV → Heap → Prop} (h : vc Try.prog C101 (vcEnd [.tmp 4] Q) H [a0, a1, .any, .any, .any, .any, .any, .any, .any, .any]) : Runs Try.prog 101 [a0, a1] H Q :=
  @fn_go Try.prog mixed 101 Try.f101 C101 [.tmp 4] Try.func101 C101_ok C101_res C101_nm 10 Try.ntmps101 [a0, a1] [a0, a1, .any, .any, .any, .any, .any, .any, .any, .any] H Q h 8 (by kernel_rfl) (by kernel_rfl)

/-- slices.IndexFunc[[]impl.Policy,impl.Policy] -/
def C176 : CC :=
 (.seq (.ops [⟨some 4, none, .mv (.const (.int .i64 0))⟩])
 (.seq (.seq (.ops [⟨some 6, none, .mv (.tmp 0)⟩,
    ⟨some 7, none, .len false (.tmp 6)⟩,
    ⟨some 8, none, .mv (.const (.int .i64 0))⟩])
  (.block 0 (.loop (.seq (.ops [⟨some 9, none, .bin .lss 0 (.tmp 8) (.tmp 7)⟩])
    (.seq (.cond (.tmp 9) .skip
     (.exit 0))
    (.seq (.block 1 (.seq (.ops [⟨some 10, none, .mv (.tmp 8)⟩,
        ⟨some 5, none, .mv (.tmp 10)⟩])
      (.seq (.ops [⟨some 11, none, .mv (.tmp 1)⟩,
        ⟨some 12, none, .mv (.tmp 0)⟩,
        ⟨some 13, none, .mv (.tmp 5)⟩,
        ⟨some 14, none, .ia 3 (.tmp 12) (.tmp 13)⟩,
        ⟨some 15, none, .load true 3 (.tmp 14)⟩,
        ⟨some 16, none, .call (.tmp 11) [(.tmp 15)]⟩])
      (.cond (.tmp 16) (.seq (.ops [⟨some 17, none, .mv (.tmp 5)⟩,
         ⟨some 4, none, .mv (.tmp 17)⟩])
       .ret)
      .skip))))
    (.ops [⟨some 18, none, .bin .add 0 (.tmp 8) (.const (.int .i64 1))⟩,
     ⟨some 8, none, .mv (.tmp 18)⟩])))))))
 (.seq (.ops [⟨some 4, none, .mv (.const (.int .i64 (-1)))⟩])
 .ret)))
theorem C176_ok : Try.f176.body.bind (comp Try.prog) = some C176 := by kernel_rfl
theorem C176_res : compRs Try.prog Try.f176.results.toList = some [.tmp 4] := by kernel_rfl
theorem C176_nm : (Try.f176.name == "runtime.NumGoroutine") = false := by kernel_rfl
theorem C176_fn {a0 a1 : AV} {H : Heap} {Q : AV → Heap → Prop} (h : vc Try.prog C176 (vcEnd [.tmp 4] Q) H [a0, a1, .any, .any, .any, .any, .any, .any, .any, .any, .any, .any, .any, .any, .any, .any, .any, .any, .any]) : Runs Try.prog 176 [a0, a1] H Q :=
  @fn_go Try.prog mixed 176 Try.f176 C176 [.tmp 4] Try.func176 C176_ok C176_res C176_nm 19 Try.ntmps176 [a0, a1] [a0, a1, .any, .any, .any, .any, .any, .any, .any, .any, .any, .any, .any, .any, .any, .any, .any, .any, .any] H Q h 17 (by kernel_rfl) (by kernel_rfl)

/-- slices.ContainsFunc[[]impl.Policy,impl.Policy] -/
def C153 : CC :=
 (.seq (.ops [⟨some 4, none, .mv (.const (.bool false))⟩])
 (.seq (.ops [⟨some 5, none, .mv (.tmp 0)⟩,
   ⟨some 6, none, .mv (.tmp 1)⟩,
   ⟨some 7, none, .call (.func 176) [(.tmp 5), (.tmp 6)]⟩,
   ⟨some 8, none, .bin .geq 0 (.tmp 7) (.const (.int .i64 0))⟩,
   ⟨some 4, none, .mv (.tmp 8)⟩])
 .ret))
theorem C153_ok : Try.f153.body.bind (comp Try.prog) = some C153 := by kernel_rfl
theorem C153_res : compRs Try.prog Try.f153.results.toList = some [.tmp 4] := by kernel_rfl
theorem C153_nm : (Try.f153.name == "runtime.NumGoroutine") = false := by kernel_rfl
theorem C153_fn {a0 a1 : AV} {H : Heap} {Q : AV → Heap → Prop} (h : vc Try.prog C153 (vcEnd [.tmp 4] Q) H [a0, a1, .any, .any, .any, .any, .any, .any, .any]) : Runs Try.prog 153 [a0, a1] H Q :=
  @fn_go Try.prog mixed 153 Try.f153 C153 [.tmp 4] Try.func153 C153_ok C153_res C153_nm 9 Try.ntmps153 [a0, a1] [a0, a1, .any, .any, .any, .any, .any, .any, .any] H Q h 7 (by kernel_rfl) (by kernel_rfl)

/-- impl.all[impl.Policy]$1 -/
def C154 : CC :=
 (.seq (.ops [⟨some 2, none, .box (.tmp 0)⟩,
   ⟨some 3, none, .mv (.const (.bool false))⟩])
 (.seq (.ops [⟨some 4, none, .load false 1 (.tmp 1)⟩,
   ⟨some 5, none, .load true 3 (.tmp 2)⟩,
   ⟨some 6, none, .call (.tmp 4) [(.tmp 5)]⟩,
   ⟨some 7, none, .not (.tmp 6)⟩,
   ⟨some 3, none, .mv (.tmp 7)⟩])
 .ret))
theorem C154_ok : Try.f154.body.bind (comp Try.prog) = some C154 := by kernel_rfl
theorem C154_res : compRs Try.prog Try.f154.results.toList = some [.tmp 3] := by kernel_rfl
theorem C154_nm : (Try.f154.name == "runtime.NumGoroutine") = false := by kernel_rfl
theorem C154_fn {a0 a1 : AV} {H : Heap} {Q : AV → Heap → Prop} (h : vc Try.prog C154 (vcEnd [.tmp 3] Q) H [a0, a1, .any, .any, .any, .any, .any, .any]) : Runs Try.prog 154 [a0, a1] H Q :=
  @fn_go Try.prog mixed 154 Try.f154 C154 [.tmp 3] Try.func154 C154_ok C154_res C154_nm 8 Try.ntmps154 [a0, a1] [a0, a1, .any, .any, .any, .any, .any, .any] H Q h 6 (by kernel_rfl) (by kernel_rfl)

/-- impl.all[impl.Policy] -/
def C127 : CC :=
 (.seq (.ops [⟨some 3, none, .box (.tmp 1)⟩,
   ⟨some 4, none, .mv (.const (.bool false))⟩])
 (.seq (.ops [⟨some 5, none, .mv (.tmp 0)⟩,
   ⟨some 6, none, .mkf 154 [(.tmp 3)]⟩,
   ⟨some 7, none, .call (.func 153) [(.tmp 5), (.tmp 6)]⟩,
   ⟨some 8, none, .not (.tmp 7)⟩,
   ⟨some 4, none, .mv (.tmp 8)⟩])
 .ret))
theorem C127_ok : Try.f127.body.bind (comp Try.prog) = some C127 := by kernel_rfl
theorem C127_res : compRs Try.prog Try.f127.results.toList = some [.tmp 4] := by kernel_rfl
theorem C127_nm : (Try.f127.name == "runtime.NumGoroutine") = false := by kernel_rfl
theorem C127_fn {a0 a1 : AV} {H : Heap} {Q : AV → Heap → Prop} (h : vc Try.prog C127 (vcEnd [.tmp 4] Q) H [a0, a1, .any, .any, .any, .any, .any, .any, .any]) : Runs Try.prog 127 [a0, a1] H Q :=
  @fn_go Try.prog mixed 127 Try.f127 C127 [.tmp 4] Try.func127 C127_ok C127_res C127_nm 9 Try.ntmps127 [a0, a1] [a0, a1, .any, .any, .any, .any, .any, .any, .any] H Q h 7 (by kernel_rfl) (by kernel_rfl)

/-- impl.IsAmount -/
def C136 : CC :=
 (.seq (.ops [⟨some 2, none, .mv (.const (.bool false))⟩])
 (.seq (.ops [⟨some 3, none, .mv (.tmp 0)⟩,
   ⟨some 4, none, .call (.func 120) [(.tmp 3), (.const (.int .i64 0)), (.const (.int .i64 1000000000))]⟩,
   ⟨some 2, none, .mv (.tmp 4)⟩])
 .ret))
theorem C136_ok : Try.f136.body.bind (comp Try.prog) = some C136 := by kernel_rfl
theorem C136_res : compRs Try.prog Try.f136.results.toList = some [.tmp 2] := by kernel_rfl
theorem C136_nm : (Try.f136.name == "runtime.NumGoroutine") = false := by kernel_rfl
theorem C136_fn {a0 : AV} {H : Heap} {Q : AV → Heap → Prop} (h : vc Try.prog C136 (vcEnd [.tmp 2] Q) H [a0, .any, .any, .any, .any]) : Runs Try.prog 136 [a0] H Q :=
  @fn_go Try.prog mixed 136 Try.f136 C136 [.tmp 2] Try.func136 C136_ok C136_res C136_nm 5 Try.ntmps136 [a0] [a0, .any, .any, .any, .any] H Q h 4 (by kernel_rfl) (by kernel_rfl)

/-- impl.isPolicy -/
def C128 : CC :=
 (.seq (.ops [⟨some 1, none, .box (.tmp 0)⟩,
   ⟨some 2, none, .mv (.const (.bool false))⟩])
 (.seq (.ops [⟨some 3, none, .fa 0 (.tmp 1)⟩,
   ⟨some 4, none, .load false 1 (.tmp 3)⟩,
   ⟨some 5, none, .call (.func 118) [(.tmp 4)]⟩,
   ⟨some 6, none, .mv (.tmp 5)⟩,
   ⟨some 7, some (6, true), .fa 1 (.tmp 1)⟩,
   ⟨some 8, some (6, true), .load false 1 (.tmp 7)⟩,
   ⟨some 9, some (6, true), .call (.func 118) [(.tmp 8)]⟩,
   ⟨some 10, none, .pick (.tmp 6) (.tmp 9) (.const (.bool false))⟩,
   ⟨some 11, none, .mv (.tmp 10)⟩,
   ⟨some 12, some (11, true), .fa 2 (.tmp 1)⟩,
   ⟨some 13, some (11, true), .load false 1 (.tmp 12)⟩,
   ⟨some 14, some (11, true), .call (.func 136) [(.tmp 13)]⟩,
   ⟨some 15, none, .pick (.tmp 11) (.tmp 14) (.const (.bool false))⟩,
   ⟨some 2, none, .mv (.tmp 15)⟩])
 .ret))
theorem C128_ok : Try.f128.body.bind (comp Try.prog) = some C128 := by kernel_rfl
theorem C128_res : compRs Try.prog Try.f128.results.toList = some [.tmp 2] := by kernel_rfl
theorem C128_nm : (Try.f128.name == "runtime.NumGoroutine") = false := by kernel_rfl
theorem C128_fn {a0 : AV} {H : Heap} {Q : AV → Heap → Prop} (h : vc Try.prog C128 (vcEnd [.tmp 2] Q) H [a0, .any, .any, .any, .any, .any, .any, .any, .any, .any, .any, .any, .any, .any, .any, .any]) : Runs Try.prog 128 [a0] H Q :=
  @fn_go Try.prog mixed 128 Try.f128 C128 [.tmp 2] Try.func128 C128_ok C128_res C128_nm 16 Try.ntmps128 [a0] [a0, .any, .any, .any, .any, .any, .any, .any, .any, .any, .any, .any, .any, .any, .any, .any] H Q h 15 (by kernel_rfl) (by kernel_rfl)

/-- impl.rising[impl.Policy] -/
def C129 : CC :=
 (.seq (.ops [⟨some 4, none, .mv (.const (.bool false))⟩])
 (.seq (.seq (.ops [⟨some 5, none, .mv (.const (.int .i64 1))⟩])
  (.block 0 (.loop (.seq (.seq (.ops [⟨some 6, none, .mv (.tmp 5)⟩,
       ⟨some 7, none, .mv (.tmp 0)⟩,
       ⟨some 8, none, .len false (.tmp 7)⟩,
       ⟨some 9, none, .bin .lss 0 (.tmp 6) (.tmp 8)⟩])
     (.cond (.tmp 9) .skip
     (.exit 0)))
    (.seq (.block 1 (.seq (.draw 12 [⟨some 12, none, .mv (.tmp 1)⟩,
        ⟨some 13, none, .mv (.tmp 0)⟩,
        ⟨some 14, none, .mv (.tmp 5)⟩,
        ⟨some 15, none, .bin .sub 0 (.tmp 14) (.const (.int .i64 1))⟩,
        ⟨some 16, none, .ia 3 (.tmp 13) (.tmp 15)⟩,
        ⟨some 17, none, .load true 3 (.tmp 16)⟩,
        ⟨some 18, none, .mv (.tmp 0)⟩,
        ⟨some 19, none, .mv (.tmp 5)⟩,
        ⟨some 20, none, .ia 3 (.tmp 18) (.tmp 19)⟩,
        ⟨some 21, none, .load true 3 (.tmp 20)⟩,
        ⟨some 22, none, .call (.tmp 12) [(.tmp 17), (.tmp 21)]⟩,
        ⟨some 23, none, .bin .geq 0 (.tmp 22) (.const (.int .i64 0))⟩])
      (.cond (.tmp 23) (.seq (.ops [⟨some 4, none, .mv (.const (.bool false))⟩])
       .ret)
      .skip)))
    (.ops [⟨some 10, none, .mv (.tmp 5)⟩,
     ⟨some 11, none, .bin .add 0 (.tmp 10) (.const (.int .i64 1))⟩,
     ⟨some 5, none, .mv (.tmp 11)⟩]))))))
 (.seq (.ops [⟨some 4, none, .mv (.const (.bool true))⟩])
 .ret)))
theorem C129_ok : Try.f129.body.bind (comp Try.prog) = some C129 := by kernel_rfl
theorem C129_res : compRs Try.prog Try.f129.results.toList = some [.tmp 4] := by kernel_rfl
theorem C129_nm : (Try.f129.name == "runtime.NumGoroutine") = false := by kernel_rfl
theorem C129_fn {a0 a1 : AV} {H : Heap} {Q : AV → Heap → Prop} (h : vc Try.prog C129 (vcEnd [.tmp 4] Q) H [a0, a1, .any, .any, .any, .any, .any, .any, .any, .any, .any, .any, .any, .any, .any, .any, .any, .any, .any, .any, .any, .any, .any, .any]) : Runs Try.prog 129 [a0, a1] H Q :=
  @fn_go Try.prog mixed 129 Try.f129 C129 [.tmp 4] Try.func129 C129_ok C129_res C129_nm 24 Try.ntmps129 [a0, a1] [a0, a1, .any, .any, .any, .any, .any, .any, .any, .any, .any, .any, .any, .any, .any, .any, .any, .any, .any, .any, .any, .any, .any, .any] H Q h 22 (by kernel_rfl) (by kernel_rfl)

/-- impl.IsCover -/
def C99 : CC :=
 (.seq (.ops [⟨some 2, none, .mv (.const (.bool false))⟩])
 (.seq (.ops [⟨some 3, none, .mv (.tmp 0)⟩,
   ⟨some 4, none, .len false (.tmp 3)⟩,
   ⟨some 5, none, .bin .leq 0 (.tmp 4) (.const (.int .i64 10))⟩,
   ⟨some 6, none, .mv (.tmp 5)⟩,
   ⟨some 7, some (6, true), .mv (.tmp 0)⟩,
   ⟨some 8, some (6, true), .call (.func 127) [(.tmp 7), (.func 128)]⟩,
   ⟨some 9, none, .pick (.tmp 6) (.tmp 8) (.const (.bool false))⟩,
   ⟨some 10, none, .mv (.tmp 9)⟩,
   ⟨some 11, some (10, true), .mv (.tmp 0)⟩,
   ⟨some 12, some (10, true), .call (.func 129) [(.tmp 11), (.func 101)]⟩,
   ⟨some 13, none, .pick (.tmp 10) (.tmp 12) (.const (.bool false))⟩,
   ⟨some 2, none, .mv (.tmp 13)⟩])
 .ret))
theorem C99_ok : Try.f99.body.bind (comp Try.prog) = some C99 := by kernel_rfl
theorem C99_res : compRs Try.prog Try.f99.results.toList = some [.tmp 2] := by kernel_rfl
theorem C99_nm : (Try.f99.name == "runtime.NumGoroutine") = false := by kernel_rfl
theorem C99_fn {a0 : AV} {H : Heap} {Q : AV → Heap → Prop} (h : vc Try.prog C99 (vcEnd [.tmp 2] Q) H [a0, .any, .any, .any, .any, .any, .any, .any, .any, .any, .any, .any, .any, .any]) : Runs Try.prog 99 [a0] H Q :=
  @fn_go Try.prog mixed 99 Try.f99 C99 [.tmp 2] Try.func99 C99_ok C99_res C99_nm 14 Try.ntmps99 [a0] [a0, .any, .any, .any, .any, .any, .any, .any, .any, .any, .any, .any, .any, .any] H Q h 13 (by kernel_rfl) (by kernel_rfl)

/-- slices.BinarySearchFunc[[]impl.Policy,impl.Policy,impl.Policy] -/
def C130 : CC :=
 (.seq (.ops [⟨some 4, none, .box (.tmp 1)⟩,
   ⟨some 6, none, .mv (.const (.int .i64 0))⟩,
   ⟨some 7, none, .mv (.const (.bool false))⟩])
 (.seq (.ops [⟨some 12, none, .mv (.tmp 0)⟩,
   ⟨some 13, none, .len false (.tmp 12)⟩,
   ⟨some 8, none, .mv (.tmp 13)⟩])
 (.seq (.ops [⟨some 14, none, .mv (.tmp 8)⟩,
   ⟨some 9, none, .mv (.const (.int .i64 0))⟩,
   ⟨some 10, none, .mv (.tmp 14)⟩])
 (.seq (.block 0 (.loop (.seq (.seq (.ops [⟨some 15, none, .mv (.tmp 9)⟩,
       ⟨some 16, none, .mv (.tmp 10)⟩,
       ⟨some 17, none, .bin .lss 0 (.tmp 15) (.tmp 16)⟩])
     (.cond (.tmp 17) .skip
     (.exit 0)))
    (.block 1 (.seq (.ops [⟨some 18, none, .mv (.tmp 9)⟩,
       ⟨some 19, none, .mv (.tmp 10)⟩,
       ⟨some 20, none, .bin .add 0 (.tmp 18) (.tmp 19)⟩,
       ⟨some 21, none, .conv .u64 (.tmp 20)⟩,
       ⟨some 22, none, .bin .shr 0 (.tmp 21) (.const (.int .u64 1))⟩,
       ⟨some 23, none, .conv .i64 (.tmp 22)⟩,
       ⟨some 11, none, .mv (.tmp 23)⟩])
     (.seq (.draw 8 [⟨some 24, none, .mv (.tmp 2)⟩,
       ⟨some 25, none, .mv (.tmp 0)⟩,
       ⟨some 26, none, .mv (.tmp 11)⟩,
       ⟨some 27, none, .ia 3 (.tmp 25) (.tmp 26)⟩,
       ⟨some 28, none, .load true 3 (.tmp 27)⟩,
       ⟨some 29, none, .load true 3 (.tmp 4)⟩,
       ⟨some 30, none, .call (.tmp 24) [(.tmp 28), (.tmp 29)]⟩,
       ⟨some 31, none, .bin .lss 0 (.tmp 30) (.const (.int .i64 0))⟩])
     (.cond (.tmp 31) (.ops [⟨some 32, none, .mv (.tmp 11)⟩,
       ⟨some 33, none, .bin .add 0 (.tmp 32) (.const (.int .i64 1))⟩,
       ⟨some 9, none, .mv (.tmp 33)⟩])
     (.ops [⟨some 34, none, .mv (.tmp 11)⟩,
       ⟨some 10, none, .mv (.tmp 34)⟩]))))))))
 (.seq (.draw 15 [⟨some 35, none, .mv (.tmp 9)⟩,
   ⟨some 36, none, .mv (.tmp 9)⟩,
   ⟨some 37, none, .mv (.tmp 8)⟩,
   ⟨some 38, none, .bin .lss 0 (.tmp 36) (.tmp 37)⟩,
   ⟨some 39, none, .mv (.tmp 38)⟩,
   ⟨some 40, some (39, true), .mv (.tmp 2)⟩,
   ⟨some 41, some (39, true), .mv (.tmp 0)⟩,
   ⟨some 42, some (39, true), .mv (.tmp 9)⟩,
   ⟨some 43, some (39, true), .ia 3 (.tmp 41) (.tmp 42)⟩,
   ⟨some 44, some (39, true), .load true 3 (.tmp 43)⟩,
   ⟨some 45, some (39, true), .load true 3 (.tmp 4)⟩,
   ⟨some 46, some (39, true), .call (.tmp 40) [(.tmp 44), (.tmp 45)]⟩,
   ⟨some 47, some (39, true), .bin .eql 0 (.tmp 46) (.const (.int .i64 0))⟩,
   ⟨some 48, none, .pick (.tmp 39) (.tmp 47) (.const (.bool false))⟩,
   ⟨some 6, none, .mv (.tmp 35)⟩,
   ⟨some 7, none, .mv (.tmp 48)⟩])
 .ret)))))
theorem C130_ok : Try.f130.body.bind (comp Try.prog) = some C130 := by kernel_rfl
theorem C130_res : compRs Try.prog Try.f130.results.toList = some [.tmp 6, .tmp 7] := by kernel_rfl
theorem C130_nm : (Try.f130.name == "runtime.NumGoroutine") = false := by kernel_rfl
theorem C130_fn {a0 a1 a2 : AV} {H : Heap} {Q : AV → Heap → Prop} (h : vc Try.prog C130 (vcEnd [.tmp 6, .tmp 7] Q) H [a0, a1, a2, .any, .any, .any, .any, .any, .any, .any, .any, .any, .any, .any, .any, .any, .any, .any, .any, .any, .any, .any, .any, .any, .any, .any, .any, .any, .any, .any, .any, .any, .any, .any, .any, .any, .any, .any, .any, .any, .any, .any, .any, .any, .any, .any, .any, .any, .any]) : Runs Try.prog 130 [a0, a1, a2] H Q :=
  @fn_go Try.prog mixed 130 Try.f130 C130 [.tmp 6, .tmp 7] Try.func130 C130_ok C130_res C130_nm 49 Try.ntmps130 [a0, a1, a2] [a0, a1, a2, .any, .any, .any, .any, .any, .any, .any, .any, .any, .any, .any, .any, .any, .any, .any, .any, .any, .any, .any, .any, .any, .any, .any, .any, .any, .any, .any, .any, .any, .any, .any, .any, .any, .any, .any, .any, .any, .any, .any, .any, .any, .any, .any, .any, .any, .any] H Q h 46 (by kernel_rfl) (by kernel_rfl)

/-- impl.copyOf[impl.Policy] -/
def C131 : CC :=
 (.seq (.ops [⟨some 2, none, .mv (.const (.slice none 0 0))⟩])
 (.seq (.ops [⟨some 3, none, .lit 3 []⟩,
   ⟨some 4, none, .mv (.tmp 0)⟩,
   ⟨some 5, none, .app 3 40 (.tmp 3) (.tmp 4)⟩,
   ⟨some 2, none, .mv (.tmp 5)⟩])
 .ret))
theorem C131_ok : Try.f131.body.bind (comp Try.prog) = some C131 := by kernel_rfl
theorem C131_res : compRs Try.prog Try.f131.results.toList = some [.tmp 2] := by kernel_rfl
theorem C131_nm : (Try.f131.name == "runtime.NumGoroutine") = false := by kernel_rfl
theorem C131_fn {a0 : AV} {H : Heap} {Q : AV → Heap → Prop} (h : vc Try.prog C131 (vcEnd [.tmp 2] Q) H [a0, .any, .any, .any, .any, .any]) : Runs Try.prog 131 [a0] H Q :=
  @fn_go Try.prog mixed 131 Try.f131 C131 [.tmp 2] Try.func131 C131_ok C131_res C131_nm 6 Try.ntmps131 [a0] [a0, .any, .any, .any, .any, .any] H Q h 5 (by kernel_rfl) (by kernel_rfl)

/-- slices.Reverse[[]impl.Policy,impl.Policy] -/
def C187 : CC :=
 (.seq (.ops [⟨some 4, none, .mv (.tmp 0)⟩,
   ⟨some 5, none, .len false (.tmp 4)⟩,
   ⟨some 6, none, .bin .sub 0 (.tmp 5) (.const (.int .i64 1))⟩,
   ⟨some 2, none, .mv (.const (.int .i64 0))⟩,
   ⟨some 3, none, .mv (.tmp 6)⟩])
 (.block 0 (.loop (.seq (.seq (.ops [⟨some 7, none, .mv (.tmp 2)⟩,
      ⟨some 8, none, .mv (.tmp 3)⟩,
      ⟨some 9, none, .bin .lss 0 (.tmp 7) (.tmp 8)⟩])
    (.cond (.tmp 9) .skip
    (.exit 0)))
   (.seq (.block 1 (.loud 14 (.alt (.step ⟨some 20, none, .ia 3 (.tmp 18) (.tmp 19)⟩ (.alt (.step ⟨some 21, none, .load true 3 (.tmp 20)⟩ (.step ⟨some 25, none, .load true 3 (.tmp 24)⟩ (.step ⟨some 26, none, .ia 3 (.tmp 14) (.tmp 15)⟩ (.step ⟨none, none, .store 3 (.tmp 26) (.tmp 21)⟩ .leaf))))
      (.step ⟨some 25, none, .load true 3 (.tmp 24)⟩ (.step ⟨some 21, none, .load true 3 (.tmp 20)⟩ (.step ⟨some 26, none, .ia 3 (.tmp 14) (.tmp 15)⟩ (.step ⟨none, none, .store 3 (.tmp 26) (.tmp 21)⟩ .leaf))))))
      (.step ⟨some 25, none, .load true 3 (.tmp 24)⟩ (.step ⟨some 20, none, .ia 3 (.tmp 18) (.tmp 19)⟩ (.step ⟨some 21, none, .load true 3 (.tmp 20)⟩ (.step ⟨some 26, none, .ia 3 (.tmp 14) (.tmp 15)⟩ (.step ⟨none, none, .store 3 (.tmp 26) (.tmp 21)⟩ .leaf))))))
      [⟨some 14, none, .mv (.tmp 0)⟩, 
     ⟨some 15, none, .mv (.tmp 2)⟩, 
     ⟨some 16, none, .mv (.tmp 0)⟩, 
     ⟨some 17, none, .mv (.tmp 3)⟩, 
     ⟨some 18, none, .mv (.tmp 0)⟩, 
     ⟨some 19, none, .mv (.tmp 3)⟩, 
     ⟨none, none, .mv (.const undef)⟩, 
     ⟨none, none, .mv (.const undef)⟩, 
     ⟨some 22, none, .mv (.tmp 0)⟩, 
     ⟨some 23, none, .mv (.tmp 2)⟩, 
     ⟨some 24, none, .ia 3 (.tmp 22) (.tmp 23)⟩, 
     ⟨none, none, .mv (.const undef)⟩, 
     ⟨none, none, .mv (.const undef)⟩, 
     ⟨none, none, .mv (.const undef)⟩]
      [⟨some 27, none, .ia 3 (.tmp 16) (.tmp 17)⟩, ⟨none, none, .store 3 (.tmp 27) (.tmp 25)⟩]))
   (.ops [⟨some 10, none, .mv (.tmp 2)⟩,
    ⟨some 11, none, .bin .add 0 (.tmp 10) (.const (.int .i64 1))⟩,
    ⟨some 12, none, .mv (.tmp 3)⟩,
    ⟨some 13, none, .bin .sub 0 (.tmp 12) (.const (.int .i64 1))⟩,
    ⟨some 2, none, .mv (.tmp 11)⟩,
    ⟨some 3, none, .mv (.tmp 13)⟩]))))))
theorem C187_ok : Try.f187.body.bind (comp Try.prog) = some C187 := by kernel_rfl
theorem C187_res : compRs Try.prog Try.f187.results.toList = some [] := by kernel_rfl
theorem C187_nm : (Try.f187.name == "runtime.NumGoroutine") = false := by kernel_rfl
theorem C187_fn {a0 : AV} {H : Heap} {Q : AV → Heap → Prop} (h : vc Try.prog C187 (vcEnd [] Q) H [a0, .any, .any, .any, .any, .any, .any, .any, .any, .any, .any, .any, .any, .any, .any, .any, .any, .any, .any, .any, .any, .any, .any, .any, .any, .any, .any, .any]) : Runs Try.prog 187 [a0] H Q :=
  @fn_go Try.prog mixed 187 Try.f187 C187 [] Try.func187 C187_ok C187_res C187_nm 28 Try.ntmps187 [a0] [a0, .any, .any, .any, .any, .any, .any, .any, .any, .any, .any, .any, .any, .any, .any, .any, .any, .any, .any, .any, .any, .any, .any, .any, .any, .any, .any, .any] H Q h 27 (by kernel_rfl) (by kernel_rfl)

/-- slices.rotateLeft[impl.Policy] -/
def C177 : CC :=
 (.seq (.ops [⟨some 4, none, .mv (.tmp 0)⟩,
   ⟨some 5, none, .mv (.tmp 1)⟩,
   ⟨some 6, none, .slc 3 (.tmp 4) none (some (.tmp 5))⟩,
   ⟨some 7, none, .call (.func 187) [(.tmp 6)]⟩])
 (.seq (.ops [⟨some 8, none, .mv (.tmp 0)⟩,
   ⟨some 9, none, .mv (.tmp 1)⟩,
   ⟨some 10, none, .slc 3 (.tmp 8) (some (.tmp 9)) none⟩,
   ⟨some 11, none, .call (.func 187) [(.tmp 10)]⟩])
 (.ops [⟨some 12, none, .mv (.tmp 0)⟩,
  ⟨some 13, none, .call (.func 187) [(.tmp 12)]⟩])))
theorem C177_ok : Try.f177.body.bind (comp Try.prog) = some C177 := by kernel_rfl
theorem C177_res : compRs Try.prog Try.f177.results.toList = some [] := by kernel_rfl
theorem C177_nm : (Try.f177.name == "runtime.NumGoroutine") = false := by kernel_rfl
theorem C177_fn {a0 a1 : AV} {H : Heap} {Q : AV → Heap → Prop} (h : vc Try.prog C177 (vcEnd [] Q) H [a0, a1, .any, .any, .any, .any, .any, .any, .any, .any, .any, .any, .any, .any]) : Runs Try.prog 177 [a0, a1] H Q :=
  @fn_go Try.prog mixed 177 Try.f177 C177 [] Try.func177 C177_ok C177_res C177_nm 14 Try.ntmps177 [a0, a1] [a0, a1, .any, .any, .any, .any, .any, .any, .any, .any, .any, .any, .any, .any] H Q h 12 (by kernel_rfl) (by kernel_rfl)

/-- slices.rotateRight[impl.Policy] -/
def C156 : CC :=
 (.ops [⟨some 4, none, .mv (.tmp 0)⟩,
  ⟨some 5, none, .mv (.tmp 0)⟩,
  ⟨some 6, none, .len false (.tmp 5)⟩,
  ⟨some 7, none, .mv (.tmp 1)⟩,
  ⟨some 8, none, .bin .sub 0 (.tmp 6) (.tmp 7)⟩,
  ⟨some 9, none, .call (.func 177) [(.tmp 4), (.tmp 8)]⟩])
theorem C156_ok : Try.f156.body.bind (comp Try.prog) = some C156 := by kernel_rfl
theorem C156_res : compRs Try.prog Try.f156.results.toList = some [] := by kernel_rfl
theorem C156_nm : (Try.f156.name == "runtime.NumGoroutine") = false := by kernel_rfl
theorem C156_fn {a0 a1 : AV} {H : Heap} {Q : AV → Heap → Prop} (h : vc Try.prog C156 (vcEnd [] Q) H [a0, a1, .any, .any, .any, .any, .any, .any, .any, .any]) : Runs Try.prog 156 [a0, a1] H Q :=
  @fn_go Try.prog mixed 156 Try.f156 C156 [] Try.func156 C156_ok C156_res C156_nm 10 Try.ntmps156 [a0, a1] [a0, a1, .any, .any, .any, .any, .any, .any, .any, .any] H Q h 8 (by kernel_rfl) (by kernel_rfl)

/-- slices.Insert[[]impl.Policy,impl.Policy] -/
def C132 : CC :=
 (.seq (.ops [⟨some 6, none, .mv (.const (.slice none 0 0))⟩])
 (.seq (.ops [⟨some 10, none, .mv (.tmp 0)⟩,
   ⟨some 11, none, .mv (.tmp 1)⟩,
   ⟨some 12, none, .slc 3 (.tmp 10) (some (.tmp 11)) none⟩])
 (.seq (.ops [⟨some 13, none, .mv (.tmp 2)⟩,
   ⟨some 14, none, .len false (.tmp 13)⟩,
   ⟨some 7, none, .mv (.tmp 14)⟩])
 (.seq (.seq (.ops [⟨some 15, none, .mv (.tmp 7)⟩,
    ⟨some 16, none, .bin .eql 0 (.tmp 15) (.const (.int .i64 0))⟩])
  (.cond (.tmp 16) (.seq (.ops [⟨some 17, none, .mv (.tmp 0)⟩,
     ⟨some 6, none, .mv (.tmp 17)⟩])
   .ret)
  .skip))
 (.seq (.ops [⟨some 18, none, .mv (.tmp 0)⟩,
   ⟨some 19, none, .len false (.tmp 18)⟩,
   ⟨some 8, none, .mv (.tmp 19)⟩])
 (.seq (.seq (.ops [⟨some 20, none, .mv (.tmp 1)⟩,
    ⟨some 21, none, .mv (.tmp 8)⟩,
    ⟨some 22, none, .bin .eql 0 (.tmp 20) (.tmp 21)⟩])
  (.cond (.tmp 22) (.seq (.ops [⟨some 23, none, .mv (.tmp 0)⟩,
     ⟨some 24, none, .mv (.tmp 2)⟩,
     ⟨some 25, none, .app 3 40 (.tmp 23) (.tmp 24)⟩,
     ⟨some 6, none, .mv (.tmp 25)⟩])
   .ret)
  .skip))
 (.seq (.seq .dead
  (.cond (.tmp 31) (.seq .dead
   (.seq .dead
   (.seq .dead
   (.seq (.ops [⟨some 55, none, .mv (.tmp 9)⟩,
     ⟨some 6, none, .mv (.tmp 55)⟩])
   .ret))))
  .skip))
 (.seq (.ops [⟨some 56, none, .mv (.tmp 0)⟩,
   ⟨some 57, none, .mv (.tmp 8)⟩,
   ⟨some 58, none, .mv (.tmp 7)⟩,
   ⟨some 59, none, .bin .add 0 (.tmp 57) (.tmp 58)⟩,
   ⟨some 60, none, .slc 3 (.tmp 56) none (some (.tmp 59))⟩,
   ⟨some 0, none, .mv (.tmp 60)⟩])
 (.seq (.seq (.ops [⟨some 61, none, .mv (.tmp 2)⟩,
    ⟨some 62, none, .mv (.tmp 0)⟩,
    ⟨some 63, none, .mv (.tmp 1)⟩,
    ⟨some 64, none, .mv (.tmp 7)⟩,
    ⟨some 65, none, .bin .add 0 (.tmp 63) (.tmp 64)⟩,
    ⟨some 66, none, .slc 3 (.tmp 62) (some (.tmp 65)) none⟩,
    ⟨some 67, none, .call (.func 155) [(.tmp 61), (.tmp 66)]⟩,
    ⟨some 68, none, .not (.tmp 67)⟩])
  (.cond (.tmp 68) (.seq .dead
   (.seq .dead
   (.seq (.ops [⟨some 83, none, .mv (.tmp 0)⟩,
     ⟨some 6, none, .mv (.tmp 83)⟩])
   .ret)))
  .skip))
 (.seq .dead
 (.seq (.ops [⟨some 89, none, .mv (.tmp 0)⟩,
   ⟨some 90, none, .mv (.tmp 1)⟩,
   ⟨some 91, none, .slc 3 (.tmp 89) (some (.tmp 90)) none⟩,
   ⟨some 92, none, .mv (.tmp 7)⟩,
   ⟨some 93, none, .call (.func 156) [(.tmp 91), (.tmp 92)]⟩])
 (.seq (.ops [⟨some 94, none, .mv (.tmp 0)⟩,
   ⟨some 6, none, .mv (.tmp 94)⟩])
 .ret))))))))))))
theorem C132_ok : Try.f132.body.bind (comp Try.prog) = some C132 := by kernel_rfl
theorem C132_res : compRs Try.prog Try.f132.results.toList = some [.tmp 6] := by kernel_rfl
theorem C132_nm : (Try.f132.name == "runtime.NumGoroutine") = false := by kernel_rfl
theorem C132_fn {a0 a1 a2 : AV} {H : Heap} {Q : AV → Heap → Prop} (h : vc Try.prog C132 (vcEnd [.tmp 6] Q) H [a0, a1, a2, .any, .any, .any, .any, .any, .any, .any, .any, .any, .any, .any, .any, .any, .any, .any, .any, .any, .any, .any, .any, .any, .any, .any, .any, .any, .any, .any, .any, .any, .any, .any, .any, .any, .any, .any, .any, .any, .any, .any, .any, .any, .any, .any, .any, .any, .any, .any, .any, .any, .any, .any, .any, .any, .any, .any, .any, .any, .any, .any, .any, .any, .any, .any, .any, .any, .any, .any, .any, .any, .any, .any, .any, .any, .any, .any, .any, .any, .any, .any, .any, .any, .any, .any, .any, .any, .any, .any, .any, .any, .any, .any, .any]) : Runs Try.prog 132 [a0, a1, a2] H Q :=
  @fn_go Try.prog mixed 132 Try.f132 C132 [.tmp 6] Try.func132 C132_ok C132_res C132_nm 95 Try.ntmps132 [a0, a1, a2] [a0, a1, a2, .any, .any, .any, .any, .any, .any, .any, .any, .any, .any, .any, .any, .any, .any, .any, .any, .any, .any, .any, .any, .any, .any, .any, .any, .any, .any, .any, .any, .any, .any, .any, .any, .any, .any, .any, .any, .any, .any, .any, .any, .any, .any, .any, .any, .any, .any, .any, .any, .any, .any, .any, .any, .any, .any, .any, .any, .any, .any, .any, .any, .any, .any, .any, .any, .any, .any, .any, .any, .any, .any, .any, .any, .any, .any, .any, .any, .any, .any, .any, .any, .any, .any, .any, .any, .any, .any, .any, .any, .any, .any, .any, .any] H Q h 92 (by kernel_rfl) (by kernel_rfl)

/-- impl.placed[impl.Policy] -/
def C100 : CC :=
 (.seq (.ops [⟨some 4, none, .box (.tmp 1)⟩,
   ⟨some 6, none, .mv (.const (.slice none 0 0))⟩])
 (.seq (.ops [⟨some 11, none, .mv (.tmp 0)⟩,
   ⟨some 12, none, .load true 3 (.tmp 4)⟩,
   ⟨some 13, none, .mv (.tmp 2)⟩,
   ⟨some 14, none, .call (.func 130) [(.tmp 11), (.tmp 12), (.tmp 13)]⟩,
   ⟨some 10, none, .mv (.tmp 14)⟩,
   ⟨some 15, none, .ext (.tmp 10) 0⟩,
   ⟨some 16, none, .ext (.tmp 10) 1⟩,
   ⟨some 7, none, .mv (.tmp 15)⟩,
   ⟨some 8, none, .mv (.tmp 16)⟩])
 (.seq (.ops [⟨some 17, none, .mv (.tmp 0)⟩,
   ⟨some 18, none, .call (.func 131) [(.tmp 17)]⟩,
   ⟨some 9, none, .mv (.tmp 18)⟩])
 (.seq (.seq (.ops [⟨some 19, none, .mv (.tmp 8)⟩])
  (.cond (.tmp 19) (.seq (.ops [⟨some 20, none, .mv (.tmp 9)⟩,
     ⟨some 21, none, .mv (.tmp 7)⟩,
     ⟨some 22, none, .load true 3 (.tmp 4)⟩,
     ⟨some 23, none, .ia 3 (.tmp 20) (.tmp 21)⟩,
     ⟨none, none, .store 3 (.tmp 23) (.tmp 22)⟩])
   (.seq (.ops [⟨some 24, none, .mv (.tmp 9)⟩,
     ⟨some 6, none, .mv (.tmp 24)⟩])
   .ret))
  .skip))
 (.seq (.ops [⟨some 25, none, .mv (.tmp 9)⟩,
   ⟨some 26, none, .mv (.tmp 7)⟩,
   ⟨some 27, none, .load true 3 (.tmp 4)⟩,
   ⟨some 28, none, .lit 3 [(.tmp 27)]⟩,
   ⟨some 29, none, .call (.func 132) [(.tmp 25), (.tmp 26), (.tmp 28)]⟩,
   ⟨some 6, none, .mv (.tmp 29)⟩])
 .ret)))))
theorem C100_ok : Try.f100.body.bind (comp Try.prog) = some C100 := by kernel_rfl
theorem C100_res : compRs Try.prog Try.f100.results.toList = some [.tmp 6] := by kernel_rfl
theorem C100_nm : (Try.f100.name == "runtime.NumGoroutine") = false := by kernel_rfl
theorem C100_fn {a0 a1 a2 : AV} {H : Heap} {Q : AV → Heap → Prop} (h : vc Try.prog C100 (vcEnd [.tmp 6] Q) H [a0, a1, a2, .any, .any, .any, .any, .any, .any, .any, .any, .any, .any, .any, .any, .any, .any, .any, .any, .any, .any, .any, .any, .any, .any, .any, .any, .any, .any, .any]) : Runs Try.prog 100 [a0, a1, a2] H Q :=
  @fn_go Try.prog mixed 100 Try.f100 C100 [.tmp 6] Try.func100 C100_ok C100_res C100_nm 30 Try.ntmps100 [a0, a1, a2] [a0, a1, a2, .any, .any, .any, .any, .any, .any, .any, .any, .any, .any, .any, .any, .any, .any, .any, .any, .any, .any, .any, .any, .any, .any, .any, .any, .any, .any, .any] H Q h 27 (by kernel_rfl) (by kernel_rfl)

/-- impl.AddPolicy -/
def C49 : CC :=
 (.seq (.ops [⟨some 3, none, .box (.tmp 1)⟩,
   ⟨some 4, none, .mv (.const (.slice none 0 0))⟩,
   ⟨some 5, none, .mv (.const (.int .i64 0))⟩])
 (.seq (.seq (.ops [⟨some 7, none, .mv (.tmp 0)⟩,
    ⟨some 8, none, .call (.func 99) [(.tmp 7)]⟩,
    ⟨some 9, none, .not (.tmp 8)⟩])
  (.cond (.tmp 9) (.seq (.ops [⟨some 4, none, .mv (.const (.slice none 0 0))⟩,
     ⟨some 5, none, .mv (.const (.int .i64 1))⟩])
   .ret)
  .skip))
 (.seq (.ops [⟨some 10, none, .mv (.tmp 0)⟩,
   ⟨some 11, none, .load true 3 (.tmp 3)⟩,
   ⟨some 12, none, .call (.func 100) [(.tmp 10), (.tmp 11), (.func 101)]⟩,
   ⟨some 6, none, .mv (.tmp 12)⟩])
 (.seq (.seq (.ops [⟨some 13, none, .mv (.tmp 6)⟩,
    ⟨some 14, none, .len false (.tmp 13)⟩,
    ⟨some 15, none, .mv (.tmp 0)⟩,
    ⟨some 16, none, .len false (.tmp 15)⟩,
    ⟨some 17, none, .bin .eql 0 (.tmp 14) (.tmp 16)⟩,
    ⟨some 18, none, .mv (.tmp 17)⟩,
    ⟨some 19, some (18, false), .mv (.tmp 6)⟩,
    ⟨some 20, some (18, false), .call (.func 99) [(.tmp 19)]⟩,
    ⟨some 21, some (18, false), .not (.tmp 20)⟩,
    ⟨some 22, none, .pick (.tmp 18) (.const (.bool true)) (.tmp 21)⟩])
  (.cond (.tmp 22) (.seq (.ops [⟨some 4, none, .mv (.const (.slice none 0 0))⟩,
     ⟨some 5, none, .mv (.const (.int .i64 5))⟩])
   .ret)
  .skip))
 (.seq (.ops [⟨some 23, none, .mv (.tmp 6)⟩,
   ⟨some 4, none, .mv (.tmp 23)⟩,
   ⟨some 5, none, .mv (.const (.int .i64 0))⟩])
 .ret)))))
theorem C49_ok : Try.f49.body.bind (comp Try.prog) = some C49 := by kernel_rfl
theorem C49_res : compRs Try.prog Try.f49.results.toList = some [.tmp 4, .tmp 5] := by kernel_rfl
theorem C49_nm : (Try.f49.name == "runtime.NumGoroutine") = false := by kernel_rfl
theorem C49_fn {a0 a1 : AV} {H : Heap} {Q : AV → Heap → Prop} (h : vc Try.prog C49 (vcEnd [.tmp 4, .tmp 5] Q) H [a0, a1, .any, .any, .any, .any, .any, .any, .any, .any, .any, .any, .any, .any, .any, .any, .any, .any, .any, .any, .any, .any, .any, .any]) : Runs Try.prog 49 [a0, a1] H Q :=
  @fn_go Try.prog mixed 49 Try.f49 C49 [.tmp 4, .tmp 5] Try.func49 C49_ok C49_res C49_nm 24 Try.ntmps49 [a0, a1] [a0, a1, .any, .any, .any, .any, .any, .any, .any, .any, .any, .any, .any, .any, .any, .any, .any, .any, .any, .any, .any, .any, .any, .any] H Q h 22 (by kernel_rfl) (by kernel_rfl)

/-- laws.eqPolicy -/
def C102 : CC :=
 (.seq (.ops [⟨some 2, none, .box (.tmp 0)⟩,
   ⟨some 3, none, .box (.tmp 1)⟩,
   ⟨some 4, none, .mv (.const (.bool false))⟩])
 (.seq (.seq (.ops [⟨some 5, none, .fa 0 (.tmp 2)⟩,
    ⟨some 6, none, .load false 1 (.tmp 5)⟩,
    ⟨some 7, none, .fa 0 (.tmp 3)⟩,
    ⟨some 8, none, .load false 1 (.tmp 7)⟩,
    ⟨some 9, none, .bin .neq 0 (.tmp 6) (.tmp 8)⟩])
  (.cond (.tmp 9) (.seq (.ops [⟨some 4, none, .mv (.const (.bool false))⟩])
   .ret)
  .skip))
 (.seq (.seq (.ops [⟨some 10, none, .fa 1 (.tmp 2)⟩,
    ⟨some 11, none, .load false 1 (.tmp 10)⟩,
    ⟨some 12, none, .fa 1 (.tmp 3)⟩,
    ⟨some 13, none, .load false 1 (.tmp 12)⟩,
    ⟨some 14, none, .bin .neq 0 (.tmp 11) (.tmp 13)⟩])
  (.cond (.tmp 14) (.seq (.ops [⟨some 4, none, .mv (.const (.bool false))⟩])
   .ret)
  .skip))
 (.seq (.seq (.ops [⟨some 15, none, .fa 2 (.tmp 2)⟩,
    ⟨some 16, none, .load false 1 (.tmp 15)⟩,
    ⟨some 17, none, .fa 2 (.tmp 3)⟩,
    ⟨some 18, none, .load false 1 (.tmp 17)⟩,
    ⟨some 19, none, .bin .neq 0 (.tmp 16) (.tmp 18)⟩])
  (.cond (.tmp 19) (.seq (.ops [⟨some 4, none, .mv (.const (.bool false))⟩])
   .ret)
  .skip))
 (.seq (.ops [⟨some 4, none, .mv (.const (.bool true))⟩])
 .ret)))))
theorem C102_ok : Try.f102.body.bind (comp Try.prog) = some C102 := by kernel_rfl
theorem C102_res : compRs Try.prog Try.f102.results.toList = some [.tmp 4] := by kernel_rfl
theorem C102_nm : (Try.f102.name == "runtime.NumGoroutine") = false := by kernel_rfl
theorem C102_fn {a0 a1 : AV} {H : Heap} {Q : AV → Heap → Prop} (h : vc Try.prog C102 (vcEnd [.tmp 4] Q) H [a0, a1, .any, .any, .any, .any, .any, .any, .any, .any, .any, .any, .any, .any, .any, .any, .any, .any, .any, .any]) : Runs Try.prog 102 [a0, a1] H Q :=
  @fn_go Try.prog mixed 102 Try.f102 C102 [.tmp 4] Try.func102 C102_ok C102_res C102_nm 20 Try.ntmps102 [a0, a1] [a0, a1, .any, .any, .any, .any, .any, .any, .any, .any, .any, .any, .any, .any, .any, .any, .any, .any, .any, .any] H Q h 18 (by kernel_rfl) (by kernel_rfl)

/-- laws.eqPolicyS -/
def C50 : CC :=
 (.seq (.ops [⟨some 4, none, .mv (.const (.bool false))⟩])
 (.seq (.seq (.ops [⟨some 6, none, .mv (.tmp 0)⟩,
    ⟨some 7, none, .len false (.tmp 6)⟩,
    ⟨some 8, none, .mv (.tmp 1)⟩,
    ⟨some 9, none, .len false (.tmp 8)⟩,
    ⟨some 10, none, .bin .neq 0 (.tmp 7) (.tmp 9)⟩])
  (.cond (.tmp 10) (.seq (.ops [⟨some 4, none, .mv (.const (.bool false))⟩])
   .ret)
  .skip))
 (.seq (.seq (.ops [⟨some 5, none, .mv (.const (.int .i64 0))⟩])
  (.block 0 (.loop (.seq (.seq (.ops [⟨some 11, none, .mv (.tmp 5)⟩,
       ⟨some 12, none, .mv (.tmp 0)⟩,
       ⟨some 13, none, .len false (.tmp 12)⟩,
       ⟨some 14, none, .bin .lss 0 (.tmp 11) (.tmp 13)⟩])
     (.cond (.tmp 14) .skip
     (.exit 0)))
    (.seq (.block 1 (.seq (.draw 10 [⟨some 17, none, .mv (.tmp 0)⟩,
        ⟨some 18, none, .mv (.tmp 5)⟩,
        ⟨some 19, none, .ia 3 (.tmp 17) (.tmp 18)⟩,
        ⟨some 20, none, .load true 3 (.tmp 19)⟩,
        ⟨some 21, none, .mv (.tmp 1)⟩,
        ⟨some 22, none, .mv (.tmp 5)⟩,
        ⟨some 23, none, .ia 3 (.tmp 21) (.tmp 22)⟩,
        ⟨some 24, none, .load true 3 (.tmp 23)⟩,
        ⟨some 25, none, .call (.func 102) [(.tmp 20), (.tmp 24)]⟩,
        ⟨some 26, none, .not (.tmp 25)⟩])
      (.cond (.tmp 26) (.seq (.ops [⟨some 4, none, .mv (.const (.bool false))⟩])
       .ret)
      .skip)))
    (.ops [⟨some 15, none, .mv (.tmp 5)⟩,
     ⟨some 16, none, .bin .add 0 (.tmp 15) (.const (.int .i64 1))⟩,
     ⟨some 5, none, .mv (.tmp 16)⟩]))))))
 (.seq (.ops [⟨some 4, none, .mv (.const (.bool true))⟩])
 .ret))))
theorem C50_ok : Try.f50.body.bind (comp Try.prog) = some C50 := by kernel_rfl
theorem C50_res : compRs Try.prog Try.f50.results.toList = some [.tmp 4] := by kernel_rfl
theorem C50_nm : (Try.f50.name == "runtime.NumGoroutine") = false := by kernel_rfl
theorem C50_fn {a0 a1 : AV} {H : Heap} {Q : AV → Heap → Prop} (h : vc Try.prog C50 (vcEnd [.tmp 4] Q) H [a0, a1, .any, .any, .any, .any, .any, .any, .any, .any, .any, .any, .any, .any, .any, .any, .any, .any, .any, .any, .any, .any, .any, .any, .any, .any, .any]) : Runs Try.prog 50 [a0, a1] H Q :=
  @fn_go Try.prog mixed 50 Try.f50 C50 [.tmp 4] Try.func50 C50_ok C50_res C50_nm 27 Try.ntmps50 [a0, a1] [a0, a1, .any, .any, .any, .any, .any, .any, .any, .any, .any, .any, .any, .any, .any, .any, .any, .any, .any, .any, .any, .any, .any, .any, .any, .any, .any] H Q h 25 (by kernel_rfl) (by kernel_rfl)

/-- laws.markPolicyS -/
def C51 : CC :=
 (.seq (.ops [⟨some 4, none, .mv (.const (.int .i64 0))⟩])
 (.seq (.seq (.ops [⟨some 5, none, .mv (.const (.int .i64 0))⟩])
  (.block 0 (.loop (.seq (.seq (.ops [⟨some 6, none, .mv (.tmp 5)⟩,
       ⟨some 7, none, .mv (.tmp 0)⟩,
       ⟨some 8, none, .len false (.tmp 7)⟩,
       ⟨some 9, none, .bin .lss 0 (.tmp 6) (.tmp 8)⟩])
     (.cond (.tmp 9) .skip
     (.exit 0)))
    (.seq (.block 1 (.seq (.ops [⟨some 12, none, .mv (.tmp 0)⟩,
        ⟨some 13, none, .mv (.tmp 5)⟩,
        ⟨some 14, none, .mv (.tmp 1)⟩,
        ⟨some 15, none, .call (.func 91) [(.tmp 14)]⟩,
        ⟨some 16, none, .ia 3 (.tmp 12) (.tmp 13)⟩,
        ⟨some 17, none, .fa 0 (.tmp 16)⟩,
        ⟨none, none, .store 1 (.tmp 17) (.tmp 15)⟩])
      (.seq (.ops [⟨some 18, none, .mv (.tmp 1)⟩,
        ⟨some 19, none, .bin .add 0 (.tmp 18) (.const (.int .i64 1))⟩,
        ⟨some 1, none, .mv (.tmp 19)⟩])
      (.seq (.ops [⟨some 20, none, .mv (.tmp 0)⟩,
        ⟨some 21, none, .mv (.tmp 5)⟩,
        ⟨some 22, none, .mv (.tmp 1)⟩,
        ⟨some 23, none, .call (.func 91) [(.tmp 22)]⟩,
        ⟨some 24, none, .ia 3 (.tmp 20) (.tmp 21)⟩,
        ⟨some 25, none, .fa 1 (.tmp 24)⟩,
        ⟨none, none, .store 1 (.tmp 25) (.tmp 23)⟩])
      (.seq (.ops [⟨some 26, none, .mv (.tmp 1)⟩,
        ⟨some 27, none, .bin .add 0 (.tmp 26) (.const (.int .i64 1))⟩,
        ⟨some 1, none, .mv (.tmp 27)⟩])
      (.seq (.ops [⟨some 28, none, .mv (.tmp 0)⟩,
        ⟨some 29, none, .mv (.tmp 5)⟩,
        ⟨some 30, none, .mv (.tmp 1)⟩,
        ⟨some 31, none, .ia 3 (.tmp 28) (.tmp 29)⟩,
        ⟨some 32, none, .fa 2 (.tmp 31)⟩,
        ⟨none, none, .store 1 (.tmp 32) (.tmp 30)⟩])
      (.ops [⟨some 33, none, .mv (.tmp 1)⟩,
       ⟨some 34, none, .bin .add 0 (.tmp 33) (.const (.int .i64 1))⟩,
       ⟨some 1, none, .mv (.tmp 34)⟩])))))))
    (.ops [⟨some 10, none, .mv (.tmp 5)⟩,
     ⟨some 11, none, .bin .add 0 (.tmp 10) (.const (.int .i64 1))⟩,
     ⟨some 5, none, .mv (.tmp 11)⟩]))))))
 (.seq (.ops [⟨some 35, none, .mv (.tmp 1)⟩,
   ⟨some 4, none, .mv (.tmp 35)⟩])
 .ret)))
theorem C51_ok : Try.f51.body.bind (comp Try.prog) = some C51 := by kernel_rfl
theorem C51_res : compRs Try.prog Try.f51.results.toList = some [.tmp 4] := by kernel_rfl
theorem C51_nm : (Try.f51.name == "runtime.NumGoroutine") = false := by kernel_rfl
theorem C51_fn {a0 a1 : AV} {H : Heap} {Q : AV → Heap → Prop} (h : vc Try.prog C51 (vcEnd [.tmp 4] Q) H [a0, a1, .any, .any, .any, .any, .any, .any, .any, .any, .any, .any, .any, .any, .any, .any, .any, .any, .any, .any, .any, .any, .any, .any, .any, .any, .any, .any, .any, .any, .any, .any, .any, .any, .any, .any]) : Runs Try.prog 51 [a0, a1] H Q :=
  @fn_go Try.prog mixed 51 Try.f51 C51 [.tmp 4] Try.func51 C51_ok C51_res C51_nm 36 Try.ntmps51 [a0, a1] [a0, a1, .any, .any, .any, .any, .any, .any, .any, .any, .any, .any, .any, .any, .any, .any, .any, .any, .any, .any, .any, .any, .any, .any, .any, .any, .any, .any, .any, .any, .any, .any, .any, .any, .any, .any] H Q h 34 (by kernel_rfl) (by kernel_rfl)

/-- laws.heldPolicyS -/
def C52 : CC :=
 (.seq (.ops [⟨some 4, none, .mv (.const (.int .i64 0))⟩])
 (.seq (.seq (.ops [⟨some 5, none, .mv (.const (.int .i64 0))⟩])
  (.block 0 (.loop (.seq (.seq (.ops [⟨some 6, none, .mv (.tmp 5)⟩,
       ⟨some 7, none, .mv (.tmp 0)⟩,
       ⟨some 8, none, .len false (.tmp 7)⟩,
       ⟨some 9, none, .bin .lss 0 (.tmp 6) (.tmp 8)⟩])
     (.cond (.tmp 9) .skip
     (.exit 0)))
    (.seq (.block 1 (.seq (.seq (.draw 8 [⟨some 12, none, .mv (.tmp 0)⟩,
         ⟨some 13, none, .mv (.tmp 5)⟩,
         ⟨some 14, none, .ia 3 (.tmp 12) (.tmp 13)⟩,
         ⟨some 15, none, .fa 0 (.tmp 14)⟩,
         ⟨some 16, none, .load false 1 (.tmp 15)⟩,
         ⟨some 17, none, .mv (.tmp 1)⟩,
         ⟨some 18, none, .call (.func 91) [(.tmp 17)]⟩,
         ⟨some 19, none, .bin .neq 0 (.tmp 16) (.tmp 18)⟩])
       (.cond (.tmp 19) (.seq (.ops [⟨some 4, none, .mv (.const (.int .i64 (-1)))⟩])
        .ret)
       .skip))
      (.seq (.ops [⟨some 20, none, .mv (.tmp 1)⟩,
        ⟨some 21, none, .bin .add 0 (.tmp 20) (.const (.int .i64 1))⟩,
        ⟨some 1, none, .mv (.tmp 21)⟩])
      (.seq (.seq (.draw 8 [⟨some 22, none, .mv (.tmp 0)⟩,
         ⟨some 23, none, .mv (.tmp 5)⟩,
         ⟨some 24, none, .ia 3 (.tmp 22) (.tmp 23)⟩,
         ⟨some 25, none, .fa 1 (.tmp 24)⟩,
         ⟨some 26, none, .load false 1 (.tmp 25)⟩,
         ⟨some 27, none, .mv (.tmp 1)⟩,
         ⟨some 28, none, .call (.func 91) [(.tmp 27)]⟩,
         ⟨some 29, none, .bin .neq 0 (.tmp 26) (.tmp 28)⟩])
       (.cond (.tmp 29) (.seq (.ops [⟨some 4, none, .mv (.const (.int .i64 (-1)))⟩])
        .ret)
       .skip))
      (.seq (.ops [⟨some 30, none, .mv (.tmp 1)⟩,
        ⟨some 31, none, .bin .add 0 (.tmp 30) (.const (.int .i64 1))⟩,
        ⟨some 1, none, .mv (.tmp 31)⟩])
      (.seq (.seq (.ops [⟨some 32, none, .mv (.tmp 0)⟩,
         ⟨some 33, none, .mv (.tmp 5)⟩,
         ⟨some 34, none, .ia 3 (.tmp 32) (.tmp 33)⟩,
         ⟨some 35, none, .fa 2 (.tmp 34)⟩,
         ⟨some 36, none, .load false 1 (.tmp 35)⟩,
         ⟨some 37, none, .mv (.tmp 1)⟩,
         ⟨some 38, none, .bin .neq 0 (.tmp 36) (.tmp 37)⟩])
       (.cond (.tmp 38) (.seq (.ops [⟨some 4, none, .mv (.const (.int .i64 (-1)))⟩])
        .ret)
       .skip))
      (.ops [⟨some 39, none, .mv (.tmp 1)⟩,
       ⟨some 40, none, .bin .add 0 (.tmp 39) (.const (.int .i64 1))⟩,
       ⟨some 1, none, .mv (.tmp 40)⟩])))))))
    (.ops [⟨some 10, none, .mv (.tmp 5)⟩,
     ⟨some 11, none, .bin .add 0 (.tmp 10) (.const (.int .i64 1))⟩,
     ⟨some 5, none, .mv (.tmp 11)⟩]))))))
 (.seq (.ops [⟨some 41, none, .mv (.tmp 1)⟩,
   ⟨some 4, none, .mv (.tmp 41)⟩])
 .ret)))
theorem C52_ok : Try.f52.body.bind (comp Try.prog) = some C52 := by kernel_rfl
theorem C52_res : compRs Try.prog Try.f52.results.toList = some [.tmp 4] := by kernel_rfl
theorem C52_nm : (Try.f52.name == "runtime.NumGoroutine") = false := by kernel_rfl
theorem C52_fn {a0 a1 : AV} {H : Heap} {Q : AV → Heap → Prop} (h : vc Try.prog C52 (vcEnd [.tmp 4] Q) H [a0, a1, .any, .any, .any, .any, .any, .any, .any, .any, .any, .any, .any, .any, .any, .any, .any, .any, .any, .any, .any, .any, .any, .any, .any, .any, .any, .any, .any, .any, .any, .any, .any, .any, .any, .any, .any, .any, .any, .any, .any, .any]) : Runs Try.prog 52 [a0, a1] H Q :=
  @fn_go Try.prog mixed 52 Try.f52 C52 [.tmp 4] Try.func52 C52_ok C52_res C52_nm 42 Try.ntmps52 [a0, a1] [a0, a1, .any, .any, .any, .any, .any, .any, .any, .any, .any, .any, .any, .any, .any, .any, .any, .any, .any, .any, .any, .any, .any, .any, .any, .any, .any, .any, .any, .any, .any, .any, .any, .any, .any, .any, .any, .any, .any, .any, .any, .any] H Q h 40 (by kernel_rfl) (by kernel_rfl)

end Go.Proofs.Ytpaflfaokgapgaa
