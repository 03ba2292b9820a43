/- The code of the functions, in the form of our laws; each is the program's own, by the kernel. Written by a program of ours. -/
import Derived.Test.YtcbijbckbloadaaB0
import Derived.KernelRfl
namespace Go.Proofs.Ytcbijbckbloadaa
open Go.Abs

/-- spec.AreClaims -/
def C33 : CC :=
 (.seq (.ops [⟨some 2, none, .mv (.const (.bool false))⟩])
 (.seq (.seq (.ops [⟨some 3, none, .mv (.const (.int .i64 0))⟩])
  (.block 0 (.loop (.seq (.seq (.ops [⟨some 5, none, .mv (.tmp 3)⟩,
       ⟨some 6, none, .mv (.tmp 0)⟩,
       ⟨some 7, none, .len false (.tmp 6)⟩,
       ⟨some 8, none, .bin .lss 0 (.tmp 5) (.tmp 7)⟩])
     (.cond (.tmp 8) .skip
     (.exit 0)))
    (.seq (.block 1 (.seq (.ops [⟨some 11, none, .mv (.tmp 0)⟩,
        ⟨some 12, none, .mv (.tmp 3)⟩,
        ⟨some 13, none, .ia 5 (.tmp 11) (.tmp 12)⟩,
        ⟨some 14, none, .load true 5 (.tmp 13)⟩,
        ⟨some 4, none, .alloc [.string ⟨#[]⟩, .int .i64 0, .int .i64 0, .int .i64 0, .int .i64 0]⟩,
        ⟨none, none, .store 5 (.tmp 4) (.tmp 14)⟩])
      (.seq (.draw 43 [⟨some 15, none, .fa 0 (.tmp 4)⟩,
        ⟨some 16, none, .load false 1 (.tmp 15)⟩,
        ⟨some 17, none, .call (.func 63) [(.tmp 16)]⟩,
        ⟨some 18, none, .not (.tmp 17)⟩,
        ⟨some 19, none, .mv (.tmp 18)⟩,
        ⟨some 20, some (19, false), .fa 1 (.tmp 4)⟩,
        ⟨some 21, some (19, false), .load false 1 (.tmp 20)⟩,
        ⟨some 22, some (19, false), .call (.func 64) [(.tmp 21), (.const (.int .i64 0)), (.const (.int .i64 1000))]⟩,
        ⟨some 23, some (19, false), .not (.tmp 22)⟩,
        ⟨some 24, none, .pick (.tmp 19) (.const (.bool true)) (.tmp 23)⟩,
        ⟨some 25, none, .mv (.tmp 24)⟩,
        ⟨some 26, some (25, false), .fa 2 (.tmp 4)⟩,
        ⟨some 27, some (25, false), .load false 1 (.tmp 26)⟩,
        ⟨some 28, some (25, false), .call (.func 64) [(.tmp 27), (.const (.int .i64 1)), (.const (.int .i64 100))]⟩,
        ⟨some 29, some (25, false), .not (.tmp 28)⟩,
        ⟨some 30, none, .pick (.tmp 25) (.const (.bool true)) (.tmp 29)⟩,
        ⟨some 31, none, .mv (.tmp 30)⟩,
        ⟨some 32, some (31, false), .fa 3 (.tmp 4)⟩,
        ⟨some 33, some (31, false), .load false 1 (.tmp 32)⟩,
        ⟨some 34, some (31, false), .call (.func 64) [(.tmp 33), (.const (.int .i64 1)), (.const (.int .i64 5))]⟩,
        ⟨some 35, some (31, false), .not (.tmp 34)⟩,
        ⟨some 36, none, .pick (.tmp 31) (.const (.bool true)) (.tmp 35)⟩,
        ⟨some 37, none, .mv (.tmp 36)⟩,
        ⟨some 38, some (37, false), .fa 4 (.tmp 4)⟩,
        ⟨some 39, some (37, false), .load false 1 (.tmp 38)⟩,
        ⟨some 40, some (37, false), .call (.func 58) [(.tmp 39)]⟩,
        ⟨some 41, some (37, false), .not (.tmp 40)⟩,
        ⟨some 42, none, .pick (.tmp 37) (.const (.bool true)) (.tmp 41)⟩,
        ⟨some 43, none, .mv (.tmp 42)⟩,
        ⟨some 44, some (43, false), .mv (.tmp 3)⟩,
        ⟨some 45, some (43, false), .bin .gtr 0 (.tmp 44) (.const (.int .i64 0))⟩,
        ⟨some 46, some (43, false), .mv (.tmp 45)⟩,
        ⟨some 47, some (46, true), .mv (.tmp 0)⟩,
        ⟨some 48, some (46, true), .mv (.tmp 3)⟩,
        ⟨some 49, some (46, true), .bin .sub 0 (.tmp 48) (.const (.int .i64 1))⟩,
        ⟨some 50, some (46, true), .ia 5 (.tmp 47) (.tmp 49)⟩,
        ⟨some 51, some (46, true), .fa 0 (.tmp 50)⟩,
        ⟨some 52, some (46, true), .load false 1 (.tmp 51)⟩,
        ⟨some 53, some (46, true), .fa 0 (.tmp 4)⟩,
        ⟨some 54, some (46, true), .load false 1 (.tmp 53)⟩,
        ⟨some 55, some (46, true), .bin .geq 0 (.tmp 52) (.tmp 54)⟩,
        ⟨some 56, some (43, false), .pick (.tmp 46) (.tmp 55) (.const (.bool false))⟩,
        ⟨some 57, none, .pick (.tmp 43) (.const (.bool true)) (.tmp 56)⟩])
      (.cond (.tmp 57) (.seq (.ops [⟨some 2, none, .mv (.const (.bool false))⟩])
       .ret)
      .skip))))
    (.ops [⟨some 9, none, .mv (.tmp 3)⟩,
     ⟨some 10, none, .bin .add 0 (.tmp 9) (.const (.int .i64 1))⟩,
     ⟨some 3, none, .mv (.tmp 10)⟩]))))))
 (.seq (.ops [⟨some 58, none, .mv (.tmp 0)⟩,
   ⟨some 59, none, .len false (.tmp 58)⟩,
   ⟨some 60, none, .bin .leq 0 (.tmp 59) (.const (.int .i64 8))⟩,
   ⟨some 2, none, .mv (.tmp 60)⟩])
 .ret)))
theorem C33_ok : Try.f33.body.bind (comp Try.prog) = some C33 := by kernel_rfl
theorem C33_res : compRs Try.prog Try.f33.results.toList = some [.tmp 2] := by kernel_rfl
theorem C33_nm : (Try.f33.name == "runtime.NumGoroutine") = false := by kernel_rfl
theorem C33_fn {a0 : AV} {H : Heap} {Q : AV → Heap → Prop} (h : vc Try.prog C33 (vcEnd [.tmp 2] Q) H [a0, .any, .any, .any, .any, .any, .any, .any, .any, .any, .any, .any, .any, .any, .any, .any, .any, .any, .any, .any, .any, .any, .any, .any, .any, .any, .any, .any, .any, .any, .any, .any, .any, .any, .any, .any, .any, .any, .any, .any, .any, .any, .any, .any, .any, .any, .any, .any, .any, .any, .any, .any, .any, .any, .any, .any, .any, .any, .any, .any, .any]) : Runs Try.prog 33 [a0] H Q :=
  @fn_go Try.prog mixed 33 Try.f33 C33 [.tmp 2] Try.func33 C33_ok C33_res C33_nm 61 Try.ntmps33 [a0] [a0, .any, .any, .any, .any, .any, .any, .any, .any, .any, .any, .any, .any, .any, .any, .any, .any, .any, .any, .any, .any, .any, .any, .any, .any, .any, .any, .any, .any, .any, .any, .any, .any, .any, .any, .any, .any, .any, .any, .any, .any, .any, .any, .any, .any, .any, .any, .any, .any, .any, .any, .any, .any, .any, .any, .any, .any, .any, .any, .any, .any] H Q h 60 (by kernel_rfl) (by kernel_rfl)

/-- laws.toClaim -/
def C89 : CC :=
 (.seq (.ops [⟨some 1, none, .box (.tmp 0)⟩,
   ⟨some 2, none, .alloc [.string ⟨#[]⟩, .int .i64 0, .int .i64 0, .int .i64 0, .int .i64 0]⟩])
 (.seq (.ops [⟨some 3, none, .alloc [.string ⟨#[]⟩, .int .i64 0, .int .i64 0, .int .i64 0, .int .i64 0]⟩])
 (.seq (.ops [⟨some 4, none, .fa 0 (.tmp 1)⟩,
   ⟨some 5, none, .load false 1 (.tmp 4)⟩,
   ⟨some 6, none, .fa 0 (.tmp 3)⟩,
   ⟨none, none, .store 1 (.tmp 6) (.tmp 5)⟩])
 (.seq (.ops [⟨some 7, none, .fa 1 (.tmp 1)⟩,
   ⟨some 8, none, .load false 1 (.tmp 7)⟩,
   ⟨some 9, none, .fa 1 (.tmp 3)⟩,
   ⟨none, none, .store 1 (.tmp 9) (.tmp 8)⟩])
 (.seq (.ops [⟨some 10, none, .fa 2 (.tmp 1)⟩,
   ⟨some 11, none, .load false 1 (.tmp 10)⟩,
   ⟨some 12, none, .fa 2 (.tmp 3)⟩,
   ⟨none, none, .store 1 (.tmp 12) (.tmp 11)⟩])
 (.seq (.ops [⟨some 13, none, .fa 3 (.tmp 1)⟩,
   ⟨some 14, none, .load false 1 (.tmp 13)⟩,
   ⟨some 15, none, .fa 3 (.tmp 3)⟩,
   ⟨none, none, .store 1 (.tmp 15) (.tmp 14)⟩])
 (.seq (.ops [⟨some 16, none, .fa 4 (.tmp 1)⟩,
   ⟨some 17, none, .load false 1 (.tmp 16)⟩,
   ⟨some 18, none, .fa 4 (.tmp 3)⟩,
   ⟨none, none, .store 1 (.tmp 18) (.tmp 17)⟩])
 (.seq (.ops [⟨some 19, none, .load true 5 (.tmp 3)⟩,
   ⟨none, none, .store 5 (.tmp 2) (.tmp 19)⟩])
 .ret))))))))
theorem C89_ok : Try.f89.body.bind (comp Try.prog) = some C89 := by kernel_rfl
theorem C89_res : compRs Try.prog Try.f89.results.toList = some [.cell true 5 2] := by kernel_rfl
theorem C89_nm : (Try.f89.name == "runtime.NumGoroutine") = false := by kernel_rfl
theorem C89_fn {a0 : AV} {H : Heap} {Q : AV → Heap → Prop} (h : vc Try.prog C89 (vcEnd [.cell true 5 2] Q) H [a0, .any, .any, .any, .any, .any, .any, .any, .any, .any, .any, .any, .any, .any, .any, .any, .any, .any, .any, .any]) : Runs Try.prog 89 [a0] H Q :=
  @fn_go Try.prog mixed 89 Try.f89 C89 [.cell true 5 2] Try.func89 C89_ok C89_res C89_nm 20 Try.ntmps89 [a0] [a0, .any, .any, .any, .any, .any, .any, .any, .any, .any, .any, .any, .any, .any, .any, .any, .any, .any, .any, .any] H Q h 19 (by kernel_rfl) (by kernel_rfl)

/-- laws.toClaimS -/
def C34 : CC :=
 (.seq (.ops [⟨some 2, none, .mv (.const (.slice none 0 0))⟩])
 (.seq (.ops [⟨some 5, none, .mv (.tmp 0)⟩,
   ⟨some 6, none, .len false (.tmp 5)⟩,
   ⟨some 7, none, .mks [.string ⟨#[]⟩, .int .i64 0, .int .i64 0, .int .i64 0, .int .i64 0] 48 (.tmp 6)⟩,
   ⟨some 3, none, .mv (.tmp 7)⟩])
 (.seq (.seq (.ops [⟨some 4, none, .mv (.const (.int .i64 0))⟩])
  (.block 0 (.loop (.seq (.seq (.ops [⟨some 8, none, .mv (.tmp 4)⟩,
       ⟨some 9, none, .mv (.tmp 0)⟩,
       ⟨some 10, none, .len false (.tmp 9)⟩,
       ⟨some 11, none, .bin .lss 0 (.tmp 8) (.tmp 10)⟩])
     (.cond (.tmp 11) .skip
     (.exit 0)))
    (.seq (.block 1 (.ops [⟨some 14, none, .mv (.tmp 3)⟩,
       ⟨some 15, none, .mv (.tmp 4)⟩,
       ⟨some 16, none, .mv (.tmp 0)⟩,
       ⟨some 17, none, .mv (.tmp 4)⟩,
       ⟨some 18, none, .ia 5 (.tmp 16) (.tmp 17)⟩,
       ⟨some 19, none, .load true 5 (.tmp 18)⟩,
       ⟨some 20, none, .call (.func 89) [(.tmp 19)]⟩,
       ⟨some 21, none, .ia 5 (.tmp 14) (.tmp 15)⟩,
       ⟨none, none, .store 5 (.tmp 21) (.tmp 20)⟩]))
    (.ops [⟨some 12, none, .mv (.tmp 4)⟩,
     ⟨some 13, none, .bin .add 0 (.tmp 12) (.const (.int .i64 1))⟩,
     ⟨some 4, none, .mv (.tmp 13)⟩]))))))
 (.seq (.ops [⟨some 22, none, .mv (.tmp 3)⟩,
   ⟨some 2, none, .mv (.tmp 22)⟩])
 .ret))))
theorem C34_ok : Try.f34.body.bind (comp Try.prog) = some C34 := by kernel_rfl
theorem C34_res : compRs Try.prog Try.f34.results.toList = some [.tmp 2] := by kernel_rfl
theorem C34_nm : (Try.f34.name == "runtime.NumGoroutine") = false := by kernel_rfl
theorem C34_fn {a0 : AV} {H : Heap} {Q : AV → Heap → Prop} (h : vc Try.prog C34 (vcEnd [.tmp 2] Q) H [a0, .any, .any, .any, .any, .any, .any, .any, .any, .any, .any, .any, .any, .any, .any, .any, .any, .any, .any, .any, .any, .any, .any]) : Runs Try.prog 34 [a0] H Q :=
  @fn_go Try.prog mixed 34 Try.f34 C34 [.tmp 2] Try.func34 C34_ok C34_res C34_nm 23 Try.ntmps34 [a0] [a0, .any, .any, .any, .any, .any, .any, .any, .any, .any, .any, .any, .any, .any, .any, .any, .any, .any, .any, .any, .any, .any, .any] H Q h 22 (by kernel_rfl) (by kernel_rfl)

/-- slices.IndexFunc[[]impl.Claim,impl.Claim] -/
def C129 : CC :=
 (.seq (.ops [⟨some 4, none, .mv (.const (.int .i64 0))⟩])
 (.seq (.seq (.ops [⟨some 6, none, .mv (.tmp 0)⟩,
    ⟨some 7, none, .len false (.tmp 6)⟩,
    ⟨some 8, none, .mv (.const (.int .i64 0))⟩])
  (.block 0 (.loop (.seq (.ops [⟨some 9, none, .bin .lss 0 (.tmp 8) (.tmp 7)⟩])
    (.seq (.cond (.tmp 9) .skip
     (.exit 0))
    (.seq (.block 1 (.seq (.ops [⟨some 10, none, .mv (.tmp 8)⟩,
        ⟨some 5, none, .mv (.tmp 10)⟩])
      (.seq (.ops [⟨some 11, none, .mv (.tmp 1)⟩,
        ⟨some 12, none, .mv (.tmp 0)⟩,
        ⟨some 13, none, .mv (.tmp 5)⟩,
        ⟨some 14, none, .ia 5 (.tmp 12) (.tmp 13)⟩,
        ⟨some 15, none, .load true 5 (.tmp 14)⟩,
        ⟨some 16, none, .call (.tmp 11) [(.tmp 15)]⟩])
      (.cond (.tmp 16) (.seq (.ops [⟨some 17, none, .mv (.tmp 5)⟩,
         ⟨some 4, none, .mv (.tmp 17)⟩])
       .ret)
      .skip))))
    (.ops [⟨some 18, none, .bin .add 0 (.tmp 8) (.const (.int .i64 1))⟩,
     ⟨some 8, none, .mv (.tmp 18)⟩])))))))
 (.seq (.ops [⟨some 4, none, .mv (.const (.int .i64 (-1)))⟩])
 .ret)))
theorem C129_ok : Try.f129.body.bind (comp Try.prog) = some C129 := by kernel_rfl
theorem C129_res : compRs Try.prog Try.f129.results.toList = some [.tmp 4] := by kernel_rfl
theorem C129_nm : (Try.f129.name == "runtime.NumGoroutine") = false := by kernel_rfl
theorem C129_fn {a0 a1 : AV} {H : Heap} {Q : AV → Heap → Prop} (h : vc Try.prog C129 (vcEnd [.tmp 4] Q) H [a0, a1, .any, .any, .any, .any, .any, .any, .any, .any, .any, .any, .any, .any, .any, .any, .any, .any, .any]) : Runs Try.prog 129 [a0, a1] H Q :=
  @fn_go Try.prog mixed 129 Try.f129 C129 [.tmp 4] Try.func129 C129_ok C129_res C129_nm 19 Try.ntmps129 [a0, a1] [a0, a1, .any, .any, .any, .any, .any, .any, .any, .any, .any, .any, .any, .any, .any, .any, .any, .any, .any] H Q h 17 (by kernel_rfl) (by kernel_rfl)

/-- slices.ContainsFunc[[]impl.Claim,impl.Claim] -/
def C127 : CC :=
 (.seq (.ops [⟨some 4, none, .mv (.const (.bool false))⟩])
 (.seq (.ops [⟨some 5, none, .mv (.tmp 0)⟩,
   ⟨some 6, none, .mv (.tmp 1)⟩,
   ⟨some 7, none, .call (.func 129) [(.tmp 5), (.tmp 6)]⟩,
   ⟨some 8, none, .bin .geq 0 (.tmp 7) (.const (.int .i64 0))⟩,
   ⟨some 4, none, .mv (.tmp 8)⟩])
 .ret))
theorem C127_ok : Try.f127.body.bind (comp Try.prog) = some C127 := by kernel_rfl
theorem C127_res : compRs Try.prog Try.f127.results.toList = some [.tmp 4] := by kernel_rfl
theorem C127_nm : (Try.f127.name == "runtime.NumGoroutine") = false := by kernel_rfl
theorem C127_fn {a0 a1 : AV} {H : Heap} {Q : AV → Heap → Prop} (h : vc Try.prog C127 (vcEnd [.tmp 4] Q) H [a0, a1, .any, .any, .any, .any, .any, .any, .any]) : Runs Try.prog 127 [a0, a1] H Q :=
  @fn_go Try.prog mixed 127 Try.f127 C127 [.tmp 4] Try.func127 C127_ok C127_res C127_nm 9 Try.ntmps127 [a0, a1] [a0, a1, .any, .any, .any, .any, .any, .any, .any] H Q h 7 (by kernel_rfl) (by kernel_rfl)

/-- impl.all[impl.Claim]$1 -/
def C128 : CC :=
 (.seq (.ops [⟨some 2, none, .box (.tmp 0)⟩,
   ⟨some 3, none, .mv (.const (.bool false))⟩])
 (.seq (.ops [⟨some 4, none, .load false 1 (.tmp 1)⟩,
   ⟨some 5, none, .load true 5 (.tmp 2)⟩,
   ⟨some 6, none, .call (.tmp 4) [(.tmp 5)]⟩,
   ⟨some 7, none, .not (.tmp 6)⟩,
   ⟨some 3, none, .mv (.tmp 7)⟩])
 .ret))
theorem C128_ok : Try.f128.body.bind (comp Try.prog) = some C128 := by kernel_rfl
theorem C128_res : compRs Try.prog Try.f128.results.toList = some [.tmp 3] := by kernel_rfl
theorem C128_nm : (Try.f128.name == "runtime.NumGoroutine") = false := by kernel_rfl
theorem C128_fn {a0 a1 : AV} {H : Heap} {Q : AV → Heap → Prop} (h : vc Try.prog C128 (vcEnd [.tmp 3] Q) H [a0, a1, .any, .any, .any, .any, .any, .any]) : Runs Try.prog 128 [a0, a1] H Q :=
  @fn_go Try.prog mixed 128 Try.f128 C128 [.tmp 3] Try.func128 C128_ok C128_res C128_nm 8 Try.ntmps128 [a0, a1] [a0, a1, .any, .any, .any, .any, .any, .any] H Q h 6 (by kernel_rfl) (by kernel_rfl)

/-- impl.all[impl.Claim] -/
def C90 : CC :=
 (.seq (.ops [⟨some 3, none, .box (.tmp 1)⟩,
   ⟨some 4, none, .mv (.const (.bool false))⟩])
 (.seq (.ops [⟨some 5, none, .mv (.tmp 0)⟩,
   ⟨some 6, none, .mkf 128 [(.tmp 3)]⟩,
   ⟨some 7, none, .call (.func 127) [(.tmp 5), (.tmp 6)]⟩,
   ⟨some 8, none, .not (.tmp 7)⟩,
   ⟨some 4, none, .mv (.tmp 8)⟩])
 .ret))
theorem C90_ok : Try.f90.body.bind (comp Try.prog) = some C90 := by kernel_rfl
theorem C90_res : compRs Try.prog Try.f90.results.toList = some [.tmp 4] := by kernel_rfl
theorem C90_nm : (Try.f90.name == "runtime.NumGoroutine") = false := by kernel_rfl
theorem C90_fn {a0 a1 : AV} {H : Heap} {Q : AV → Heap → Prop} (h : vc Try.prog C90 (vcEnd [.tmp 4] Q) H [a0, a1, .any, .any, .any, .any, .any, .any, .any]) : Runs Try.prog 90 [a0, a1] H Q :=
  @fn_go Try.prog mixed 90 Try.f90 C90 [.tmp 4] Try.func90 C90_ok C90_res C90_nm 9 Try.ntmps90 [a0, a1] [a0, a1, .any, .any, .any, .any, .any, .any, .any] H Q h 7 (by kernel_rfl) (by kernel_rfl)

/-- impl.isClaim -/
def C91 : CC :=
 (.seq (.ops [⟨some 1, none, .box (.tmp 0)⟩,
   ⟨some 2, none, .mv (.const (.bool false))⟩])
 (.seq (.ops [⟨some 3, none, .fa 0 (.tmp 1)⟩,
   ⟨some 4, none, .load false 1 (.tmp 3)⟩,
   ⟨some 5, none, .call (.func 68) [(.tmp 4)]⟩,
   ⟨some 6, none, .mv (.tmp 5)⟩,
   ⟨some 7, some (6, true), .fa 1 (.tmp 1)⟩,
   ⟨some 8, some (6, true), .load false 1 (.tmp 7)⟩,
   ⟨some 9, some (6, true), .call (.func 69) [(.tmp 8), (.const (.int .i64 0)), (.const (.int .i64 1000))]⟩,
   ⟨some 10, none, .pick (.tmp 6) (.tmp 9) (.const (.bool false))⟩,
   ⟨some 11, none, .mv (.tmp 10)⟩,
   ⟨some 12, some (11, true), .fa 2 (.tmp 1)⟩,
   ⟨some 13, some (11, true), .load false 1 (.tmp 12)⟩,
   ⟨some 14, some (11, true), .call (.func 69) [(.tmp 13), (.const (.int .i64 1)), (.const (.int .i64 100))]⟩,
   ⟨some 15, none, .pick (.tmp 11) (.tmp 14) (.const (.bool false))⟩,
   ⟨some 16, none, .mv (.tmp 15)⟩,
   ⟨some 17, some (16, true), .fa 3 (.tmp 1)⟩,
   ⟨some 18, some (16, true), .load false 1 (.tmp 17)⟩,
   ⟨some 19, some (16, true), .call (.func 69) [(.tmp 18), (.const (.int .i64 1)), (.const (.int .i64 5))]⟩,
   ⟨some 20, none, .pick (.tmp 16) (.tmp 19) (.const (.bool false))⟩,
   ⟨some 21, none, .mv (.tmp 20)⟩,
   ⟨some 22, some (21, true), .fa 4 (.tmp 1)⟩,
   ⟨some 23, some (21, true), .load false 1 (.tmp 22)⟩,
   ⟨some 24, some (21, true), .call (.func 60) [(.tmp 23)]⟩,
   ⟨some 25, none, .pick (.tmp 21) (.tmp 24) (.const (.bool false))⟩,
   ⟨some 2, none, .mv (.tmp 25)⟩])
 .ret))
theorem C91_ok : Try.f91.body.bind (comp Try.prog) = some C91 := by kernel_rfl
theorem C91_res : compRs Try.prog Try.f91.results.toList = some [.tmp 2] := by kernel_rfl
theorem C91_nm : (Try.f91.name == "runtime.NumGoroutine") = false := by kernel_rfl
theorem C91_fn {a0 : AV} {H : Heap} {Q : AV → Heap → Prop} (h : vc Try.prog C91 (vcEnd [.tmp 2] Q) H [a0, .any, .any, .any, .any, .any, .any, .any, .any, .any, .any, .any, .any, .any, .any, .any, .any, .any, .any, .any, .any, .any, .any, .any, .any, .any]) : Runs Try.prog 91 [a0] H Q :=
  @fn_go Try.prog mixed 91 Try.f91 C91 [.tmp 2] Try.func91 C91_ok C91_res C91_nm 26 Try.ntmps91 [a0] [a0, .any, .any, .any, .any, .any, .any, .any, .any, .any, .any, .any, .any, .any, .any, .any, .any, .any, .any, .any, .any, .any, .any, .any, .any, .any] H Q h 25 (by kernel_rfl) (by kernel_rfl)

/-- impl.rising[impl.Claim] -/
def C92 : CC :=
 (.seq (.ops [⟨some 4, none, .mv (.const (.bool false))⟩])
 (.seq (.seq (.ops [⟨some 5, none, .mv (.const (.int .i64 1))⟩])
  (.block 0 (.loop (.seq (.seq (.ops [⟨some 6, none, .mv (.tmp 5)⟩,
       ⟨some 7, none, .mv (.tmp 0)⟩,
       ⟨some 8, none, .len false (.tmp 7)⟩,
       ⟨some 9, none, .bin .lss 0 (.tmp 6) (.tmp 8)⟩])
     (.cond (.tmp 9) .skip
     (.exit 0)))
    (.seq (.block 1 (.seq (.draw 12 [⟨some 12, none, .mv (.tmp 1)⟩,
        ⟨some 13, none, .mv (.tmp 0)⟩,
        ⟨some 14, none, .mv (.tmp 5)⟩,
        ⟨some 15, none, .bin .sub 0 (.tmp 14) (.const (.int .i64 1))⟩,
        ⟨some 16, none, .ia 5 (.tmp 13) (.tmp 15)⟩,
        ⟨some 17, none, .load true 5 (.tmp 16)⟩,
        ⟨some 18, none, .mv (.tmp 0)⟩,
        ⟨some 19, none, .mv (.tmp 5)⟩,
        ⟨some 20, none, .ia 5 (.tmp 18) (.tmp 19)⟩,
        ⟨some 21, none, .load true 5 (.tmp 20)⟩,
        ⟨some 22, none, .call (.tmp 12) [(.tmp 17), (.tmp 21)]⟩,
        ⟨some 23, none, .bin .geq 0 (.tmp 22) (.const (.int .i64 0))⟩])
      (.cond (.tmp 23) (.seq (.ops [⟨some 4, none, .mv (.const (.bool false))⟩])
       .ret)
      .skip)))
    (.ops [⟨some 10, none, .mv (.tmp 5)⟩,
     ⟨some 11, none, .bin .add 0 (.tmp 10) (.const (.int .i64 1))⟩,
     ⟨some 5, none, .mv (.tmp 11)⟩]))))))
 (.seq (.ops [⟨some 4, none, .mv (.const (.bool true))⟩])
 .ret)))
theorem C92_ok : Try.f92.body.bind (comp Try.prog) = some C92 := by kernel_rfl
theorem C92_res : compRs Try.prog Try.f92.results.toList = some [.tmp 4] := by kernel_rfl
theorem C92_nm : (Try.f92.name == "runtime.NumGoroutine") = false := by kernel_rfl
theorem C92_fn {a0 a1 : AV} {H : Heap} {Q : AV → Heap → Prop} (h : vc Try.prog C92 (vcEnd [.tmp 4] Q) H [a0, a1, .any, .any, .any, .any, .any, .any, .any, .any, .any, .any, .any, .any, .any, .any, .any, .any, .any, .any, .any, .any, .any, .any]) : Runs Try.prog 92 [a0, a1] H Q :=
  @fn_go Try.prog mixed 92 Try.f92 C92 [.tmp 4] Try.func92 C92_ok C92_res C92_nm 24 Try.ntmps92 [a0, a1] [a0, a1, .any, .any, .any, .any, .any, .any, .any, .any, .any, .any, .any, .any, .any, .any, .any, .any, .any, .any, .any, .any, .any, .any] H Q h 22 (by kernel_rfl) (by kernel_rfl)

/-- impl.compareClaims -/
def C93 : CC :=
 (.seq (.ops [⟨some 2, none, .box (.tmp 0)⟩,
   ⟨some 3, none, .box (.tmp 1)⟩,
   ⟨some 4, none, .mv (.const (.int .i64 0))⟩])
 (.seq (.ops [⟨some 5, none, .fa 0 (.tmp 2)⟩,
   ⟨some 6, none, .load false 1 (.tmp 5)⟩,
   ⟨some 7, none, .fa 0 (.tmp 3)⟩,
   ⟨some 8, none, .load false 1 (.tmp 7)⟩,
   ⟨some 9, none, .call (.func 79) [(.tmp 6), (.tmp 8)]⟩,
   ⟨some 4, none, .mv (.tmp 9)⟩])
 .ret))
theorem C93_ok : Try.f93.body.bind (comp Try.prog) = some C93 := by kernel_rfl
theorem C93_res : compRs Try.prog Try.f93.results.toList = some [.tmp 4] := by kernel_rfl
theorem C93_nm : (Try.f93.name == "runtime.NumGoroutine") = false := by kernel_rfl
theorem C93_fn {a0 a1 : AV} {H : Heap} {Q : AV → Heap → Prop} (h : vc Try.prog C93 (vcEnd [.tmp 4] Q) H [a0, a1, .any, .any, .any, .any, .any, .any, .any, .any]) : Runs Try.prog 93 [a0, a1] H Q :=
  @fn_go Try.prog mixed 93 Try.f93 C93 [.tmp 4] Try.func93 C93_ok C93_res C93_nm 10 Try.ntmps93 [a0, a1] [a0, a1, .any, .any, .any, .any, .any, .any, .any, .any] H Q h 8 (by kernel_rfl) (by kernel_rfl)

/-- impl.AreClaims -/
def C35 : CC :=
 (.seq (.ops [⟨some 2, none, .mv (.const (.bool false))⟩])
 (.seq (.ops [⟨some 3, none, .mv (.tmp 0)⟩,
   ⟨some 4, none, .len false (.tmp 3)⟩,
   ⟨some 5, none, .bin .leq 0 (.tmp 4) (.const (.int .i64 8))⟩,
   ⟨some 6, none, .mv (.tmp 5)⟩,
   ⟨some 7, some (6, true), .mv (.tmp 0)⟩,
   ⟨some 8, some (6, true), .call (.func 90) [(.tmp 7), (.func 91)]⟩,
   ⟨some 9, none, .pick (.tmp 6) (.tmp 8) (.const (.bool false))⟩,
   ⟨some 10, none, .mv (.tmp 9)⟩,
   ⟨some 11, some (10, true), .mv (.tmp 0)⟩,
   ⟨some 12, some (10, true), .call (.func 92) [(.tmp 11), (.func 93)]⟩,
   ⟨some 13, none, .pick (.tmp 10) (.tmp 12) (.const (.bool false))⟩,
   ⟨some 2, none, .mv (.tmp 13)⟩])
 .ret))
theorem C35_ok : Try.f35.body.bind (comp Try.prog) = some C35 := by kernel_rfl
theorem C35_res : compRs Try.prog Try.f35.results.toList = some [.tmp 2] := by kernel_rfl
theorem C35_nm : (Try.f35.name == "runtime.NumGoroutine") = false := by kernel_rfl
theorem C35_fn {a0 : AV} {H : Heap} {Q : AV → Heap → Prop} (h : vc Try.prog C35 (vcEnd [.tmp 2] Q) H [a0, .any, .any, .any, .any, .any, .any, .any, .any, .any, .any, .any, .any, .any]) : Runs Try.prog 35 [a0] H Q :=
  @fn_go Try.prog mixed 35 Try.f35 C35 [.tmp 2] Try.func35 C35_ok C35_res C35_nm 14 Try.ntmps35 [a0] [a0, .any, .any, .any, .any, .any, .any, .any, .any, .any, .any, .any, .any, .any] H Q h 13 (by kernel_rfl) (by kernel_rfl)

/-- laws.eqClaim -/
def C94 : CC :=
 (.seq (.ops [⟨some 2, none, .box (.tmp 0)⟩,
   ⟨some 3, none, .box (.tmp 1)⟩,
   ⟨some 4, none, .mv (.const (.bool false))⟩])
 (.seq (.seq (.ops [⟨some 5, none, .fa 0 (.tmp 2)⟩,
    ⟨some 6, none, .load false 1 (.tmp 5)⟩,
    ⟨some 7, none, .fa 0 (.tmp 3)⟩,
    ⟨some 8, none, .load false 1 (.tmp 7)⟩,
    ⟨some 9, none, .bin .neq 0 (.tmp 6) (.tmp 8)⟩])
  (.cond (.tmp 9) (.seq (.ops [⟨some 4, none, .mv (.const (.bool false))⟩])
   .ret)
  .skip))
 (.seq (.seq (.ops [⟨some 10, none, .fa 1 (.tmp 2)⟩,
    ⟨some 11, none, .load false 1 (.tmp 10)⟩,
    ⟨some 12, none, .fa 1 (.tmp 3)⟩,
    ⟨some 13, none, .load false 1 (.tmp 12)⟩,
    ⟨some 14, none, .bin .neq 0 (.tmp 11) (.tmp 13)⟩])
  (.cond (.tmp 14) (.seq (.ops [⟨some 4, none, .mv (.const (.bool false))⟩])
   .ret)
  .skip))
 (.seq (.seq (.ops [⟨some 15, none, .fa 2 (.tmp 2)⟩,
    ⟨some 16, none, .load false 1 (.tmp 15)⟩,
    ⟨some 17, none, .fa 2 (.tmp 3)⟩,
    ⟨some 18, none, .load false 1 (.tmp 17)⟩,
    ⟨some 19, none, .bin .neq 0 (.tmp 16) (.tmp 18)⟩])
  (.cond (.tmp 19) (.seq (.ops [⟨some 4, none, .mv (.const (.bool false))⟩])
   .ret)
  .skip))
 (.seq (.seq (.ops [⟨some 20, none, .fa 3 (.tmp 2)⟩,
    ⟨some 21, none, .load false 1 (.tmp 20)⟩,
    ⟨some 22, none, .fa 3 (.tmp 3)⟩,
    ⟨some 23, none, .load false 1 (.tmp 22)⟩,
    ⟨some 24, none, .bin .neq 0 (.tmp 21) (.tmp 23)⟩])
  (.cond (.tmp 24) (.seq (.ops [⟨some 4, none, .mv (.const (.bool false))⟩])
   .ret)
  .skip))
 (.seq (.seq (.ops [⟨some 25, none, .fa 4 (.tmp 2)⟩,
    ⟨some 26, none, .load false 1 (.tmp 25)⟩,
    ⟨some 27, none, .fa 4 (.tmp 3)⟩,
    ⟨some 28, none, .load false 1 (.tmp 27)⟩,
    ⟨some 29, none, .bin .neq 0 (.tmp 26) (.tmp 28)⟩])
  (.cond (.tmp 29) (.seq (.ops [⟨some 4, none, .mv (.const (.bool false))⟩])
   .ret)
  .skip))
 (.seq (.ops [⟨some 4, none, .mv (.const (.bool true))⟩])
 .ret)))))))
theorem C94_ok : Try.f94.body.bind (comp Try.prog) = some C94 := by kernel_rfl
theorem C94_res : compRs Try.prog Try.f94.results.toList = some [.tmp 4] := by kernel_rfl
theorem C94_nm : (Try.f94.name == "runtime.NumGoroutine") = false := by kernel_rfl
theorem C94_fn {a0 a1 : AV} {H : Heap} {Q : AV → Heap → Prop} (h : vc Try.prog C94 (vcEnd [.tmp 4] Q) H [a0, a1, .any, .any, .any, .any, .any, .any, .any, .any, .any, .any, .any, .any, .any, .any, .any, .any, .any, .any, .any, .any, .any, .any, .any, .any, .any, .any, .any, .any]) : Runs Try.prog 94 [a0, a1] H Q :=
  @fn_go Try.prog mixed 94 Try.f94 C94 [.tmp 4] Try.func94 C94_ok C94_res C94_nm 30 Try.ntmps94 [a0, a1] [a0, a1, .any, .any, .any, .any, .any, .any, .any, .any, .any, .any, .any, .any, .any, .any, .any, .any, .any, .any, .any, .any, .any, .any, .any, .any, .any, .any, .any, .any] H Q h 28 (by kernel_rfl) (by kernel_rfl)

/-- laws.eqClaimS -/
def C36 : CC :=
 (.seq (.ops [⟨some 4, none, .mv (.const (.bool false))⟩])
 (.seq (.seq (.ops [⟨some 6, none, .mv (.tmp 0)⟩,
    ⟨some 7, none, .len false (.tmp 6)⟩,
    ⟨some 8, none, .mv (.tmp 1)⟩,
    ⟨some 9, none, .len false (.tmp 8)⟩,
    ⟨some 10, none, .bin .neq 0 (.tmp 7) (.tmp 9)⟩])
  (.cond (.tmp 10) (.seq (.ops [⟨some 4, none, .mv (.const (.bool false))⟩])
   .ret)
  .skip))
 (.seq (.seq (.ops [⟨some 5, none, .mv (.const (.int .i64 0))⟩])
  (.block 0 (.loop (.seq (.seq (.ops [⟨some 11, none, .mv (.tmp 5)⟩,
       ⟨some 12, none, .mv (.tmp 0)⟩,
       ⟨some 13, none, .len false (.tmp 12)⟩,
       ⟨some 14, none, .bin .lss 0 (.tmp 11) (.tmp 13)⟩])
     (.cond (.tmp 14) .skip
     (.exit 0)))
    (.seq (.block 1 (.seq (.draw 10 [⟨some 17, none, .mv (.tmp 0)⟩,
        ⟨some 18, none, .mv (.tmp 5)⟩,
        ⟨some 19, none, .ia 5 (.tmp 17) (.tmp 18)⟩,
        ⟨some 20, none, .load true 5 (.tmp 19)⟩,
        ⟨some 21, none, .mv (.tmp 1)⟩,
        ⟨some 22, none, .mv (.tmp 5)⟩,
        ⟨some 23, none, .ia 5 (.tmp 21) (.tmp 22)⟩,
        ⟨some 24, none, .load true 5 (.tmp 23)⟩,
        ⟨some 25, none, .call (.func 94) [(.tmp 20), (.tmp 24)]⟩,
        ⟨some 26, none, .not (.tmp 25)⟩])
      (.cond (.tmp 26) (.seq (.ops [⟨some 4, none, .mv (.const (.bool false))⟩])
       .ret)
      .skip)))
    (.ops [⟨some 15, none, .mv (.tmp 5)⟩,
     ⟨some 16, none, .bin .add 0 (.tmp 15) (.const (.int .i64 1))⟩,
     ⟨some 5, none, .mv (.tmp 16)⟩]))))))
 (.seq (.ops [⟨some 4, none, .mv (.const (.bool true))⟩])
 .ret))))
theorem C36_ok : Try.f36.body.bind (comp Try.prog) = some C36 := by kernel_rfl
theorem C36_res : compRs Try.prog Try.f36.results.toList = some [.tmp 4] := by kernel_rfl
theorem C36_nm : (Try.f36.name == "runtime.NumGoroutine") = false := by kernel_rfl
theorem C36_fn {a0 a1 : AV} {H : Heap} {Q : AV → Heap → Prop} (h : vc Try.prog C36 (vcEnd [.tmp 4] Q) H [a0, a1, .any, .any, .any, .any, .any, .any, .any, .any, .any, .any, .any, .any, .any, .any, .any, .any, .any, .any, .any, .any, .any, .any, .any, .any, .any]) : Runs Try.prog 36 [a0, a1] H Q :=
  @fn_go Try.prog mixed 36 Try.f36 C36 [.tmp 4] Try.func36 C36_ok C36_res C36_nm 27 Try.ntmps36 [a0, a1] [a0, a1, .any, .any, .any, .any, .any, .any, .any, .any, .any, .any, .any, .any, .any, .any, .any, .any, .any, .any, .any, .any, .any, .any, .any, .any, .any] H Q h 25 (by kernel_rfl) (by kernel_rfl)

/-- laws.FnExactAreClaims -/
def C7 : CC :=
 (.seq (.ops [⟨some 2, none, .mv (.const (.bool false))⟩])
 (.seq (.ops [⟨some 3, none, .mv (.const (.int .i64 1048576))⟩])
 (.seq (.ops [⟨some 7, none, .mv (.tmp 0)⟩,
   ⟨some 8, none, .mv (.tmp 3)⟩,
   ⟨some 9, none, .call (.func 32) [(.tmp 7), (.tmp 8)]⟩,
   ⟨some 3, none, .mv (.tmp 9)⟩])
 (.seq (.seq (.ops [⟨some 10, none, .mv (.tmp 3)⟩,
    ⟨some 11, none, .bin .lss 0 (.tmp 10) (.const (.int .i64 0))⟩])
  (.cond (.tmp 11) (.seq (.ops [⟨some 2, none, .mv (.const (.bool true))⟩])
   .ret)
  .skip))
 (.seq (.ops [⟨some 12, none, .mv (.tmp 0)⟩,
   ⟨some 13, none, .call (.func 34) [(.tmp 12)]⟩,
   ⟨some 14, none, .call (.func 33) [(.tmp 13)]⟩,
   ⟨some 4, none, .mv (.tmp 14)⟩])
 (.seq (.ops [⟨some 15, none, .mv (.tmp 0)⟩,
   ⟨some 16, none, .call (.func 34) [(.tmp 15)]⟩,
   ⟨some 5, none, .mv (.tmp 16)⟩])
 (.seq (.ops [⟨some 17, none, .mv (.tmp 5)⟩,
   ⟨some 18, none, .call (.func 35) [(.tmp 17)]⟩,
   ⟨some 6, none, .mv (.tmp 18)⟩])
 (.seq (.seq (.ops [⟨some 19, none, .mv (.tmp 6)⟩,
    ⟨some 20, none, .mv (.tmp 4)⟩,
    ⟨some 21, none, .bin .neq 1 (.tmp 19) (.tmp 20)⟩])
  (.cond (.tmp 21) (.seq (.ops [⟨some 2, none, .mv (.const (.bool false))⟩])
   .ret)
  .skip))
 (.seq (.seq (.ops [⟨some 22, none, .mv (.tmp 5)⟩,
    ⟨some 23, none, .mv (.tmp 0)⟩,
    ⟨some 24, none, .call (.func 34) [(.tmp 23)]⟩,
    ⟨some 25, none, .call (.func 36) [(.tmp 22), (.tmp 24)]⟩,
    ⟨some 26, none, .not (.tmp 25)⟩])
  (.cond (.tmp 26) (.seq (.ops [⟨some 2, none, .mv (.const (.bool false))⟩])
   .ret)
  .skip))
 (.seq (.ops [⟨some 2, none, .mv (.const (.bool true))⟩])
 .ret))))))))))
theorem C7_ok : Try.f7.body.bind (comp Try.prog) = some C7 := by kernel_rfl
theorem C7_res : compRs Try.prog Try.f7.results.toList = some [.tmp 2] := by kernel_rfl
theorem C7_nm : (Try.f7.name == "runtime.NumGoroutine") = false := by kernel_rfl
theorem C7_fn {a0 : AV} {H : Heap} {Q : AV → Heap → Prop} (h : vc Try.prog C7 (vcEnd [.tmp 2] Q) H [a0, .any, .any, .any, .any, .any, .any, .any, .any, .any, .any, .any, .any, .any, .any, .any, .any, .any, .any, .any, .any, .any, .any, .any, .any, .any, .any]) : Runs Try.prog 7 [a0] H Q :=
  @fn_go Try.prog mixed 7 Try.f7 C7 [.tmp 2] Try.func7 C7_ok C7_res C7_nm 27 Try.ntmps7 [a0] [a0, .any, .any, .any, .any, .any, .any, .any, .any, .any, .any, .any, .any, .any, .any, .any, .any, .any, .any, .any, .any, .any, .any, .any, .any, .any, .any] H Q h 26 (by kernel_rfl) (by kernel_rfl)

/-- spec.l20Given -/
def C95 : CC :=
 (.seq (.ops [⟨some 4, none, .mv (.const (.int .i64 0))⟩])
 (.seq (.ops [⟨some 5, none, .mv (.const (.int .i64 0))⟩])
 (.seq (.seq (.ops [⟨some 6, none, .mv (.const (.int .i64 0))⟩])
  (.block 0 (.loop (.seq (.seq (.ops [⟨some 7, none, .mv (.tmp 6)⟩,
       ⟨some 8, none, .mv (.tmp 0)⟩,
       ⟨some 9, none, .len false (.tmp 8)⟩,
       ⟨some 10, none, .bin .lss 0 (.tmp 7) (.tmp 9)⟩])
     (.cond (.tmp 10) .skip
     (.exit 0)))
    (.seq (.block 1 (.seq (.ops [⟨some 13, none, .mv (.tmp 0)⟩,
        ⟨some 14, none, .mv (.tmp 6)⟩,
        ⟨some 15, none, .ia 3 (.tmp 13) (.tmp 14)⟩,
        ⟨some 16, none, .fa 0 (.tmp 15)⟩,
        ⟨some 17, none, .load false 1 (.tmp 16)⟩,
        ⟨some 18, none, .mv (.tmp 1)⟩,
        ⟨some 19, none, .bin .eql 0 (.tmp 17) (.tmp 18)⟩])
      (.cond (.tmp 19) (.ops [⟨some 20, none, .mv (.tmp 5)⟩,
        ⟨some 21, none, .mv (.tmp 0)⟩,
        ⟨some 22, none, .mv (.tmp 6)⟩,
        ⟨some 23, none, .ia 3 (.tmp 21) (.tmp 22)⟩,
        ⟨some 24, none, .fa 2 (.tmp 23)⟩,
        ⟨some 25, none, .load false 1 (.tmp 24)⟩,
        ⟨some 26, none, .bin .add 0 (.tmp 20) (.tmp 25)⟩,
        ⟨some 5, none, .mv (.tmp 26)⟩])
      .skip)))
    (.ops [⟨some 11, none, .mv (.tmp 6)⟩,
     ⟨some 12, none, .bin .add 0 (.tmp 11) (.const (.int .i64 1))⟩,
     ⟨some 6, none, .mv (.tmp 12)⟩]))))))
 (.seq (.ops [⟨some 27, none, .mv (.tmp 5)⟩,
   ⟨some 4, none, .mv (.tmp 27)⟩])
 .ret))))
theorem C95_ok : Try.f95.body.bind (comp Try.prog) = some C95 := by kernel_rfl
theorem C95_res : compRs Try.prog Try.f95.results.toList = some [.tmp 4] := by kernel_rfl
theorem C95_nm : (Try.f95.name == "runtime.NumGoroutine") = false := by kernel_rfl
theorem C95_fn {a0 a1 : AV} {H : Heap} {Q : AV → Heap → Prop} (h : vc Try.prog C95 (vcEnd [.tmp 4] Q) H [a0, a1, .any, .any, .any, .any, .any, .any, .any, .any, .any, .any, .any, .any, .any, .any, .any, .any, .any, .any, .any, .any, .any, .any, .any, .any, .any, .any]) : Runs Try.prog 95 [a0, a1] H Q :=
  @fn_go Try.prog mixed 95 Try.f95 C95 [.tmp 4] Try.func95 C95_ok C95_res C95_nm 28 Try.ntmps95 [a0, a1] [a0, a1, .any, .any, .any, .any, .any, .any, .any, .any, .any, .any, .any, .any, .any, .any, .any, .any, .any, .any, .any, .any, .any, .any, .any, .any, .any, .any] H Q h 26 (by kernel_rfl) (by kernel_rfl)

/-- spec.GivenSecurity -/
def C37 : CC :=
 (.seq (.ops [⟨some 4, none, .mv (.const (.int .i64 0))⟩,
   ⟨some 5, none, .mv (.const (.int .i64 0))⟩])
 (.seq (.seq (.ops [⟨some 6, none, .mv (.tmp 0)⟩,
    ⟨some 7, none, .call (.func 18) [(.tmp 6)]⟩,
    ⟨some 8, none, .not (.tmp 7)⟩])
  (.cond (.tmp 8) (.seq (.ops [⟨some 4, none, .mv (.const (.int .i64 0))⟩,
     ⟨some 5, none, .mv (.const (.int .i64 1))⟩])
   .ret)
  .skip))
 (.seq (.ops [⟨some 9, none, .mv (.tmp 0)⟩,
   ⟨some 10, none, .mv (.tmp 1)⟩,
   ⟨some 11, none, .call (.func 95) [(.tmp 9), (.tmp 10)]⟩,
   ⟨some 4, none, .mv (.tmp 11)⟩,
   ⟨some 5, none, .mv (.const (.int .i64 0))⟩])
 .ret)))
theorem C37_ok : Try.f37.body.bind (comp Try.prog) = some C37 := by kernel_rfl
theorem C37_res : compRs Try.prog Try.f37.results.toList = some [.tmp 4, .tmp 5] := by kernel_rfl
theorem C37_nm : (Try.f37.name == "runtime.NumGoroutine") = false := by kernel_rfl
theorem C37_fn {a0 a1 : AV} {H : Heap} {Q : AV → Heap → Prop} (h : vc Try.prog C37 (vcEnd [.tmp 4, .tmp 5] Q) H [a0, a1, .any, .any, .any, .any, .any, .any, .any, .any, .any, .any]) : Runs Try.prog 37 [a0, a1] H Q :=
  @fn_go Try.prog mixed 37 Try.f37 C37 [.tmp 4, .tmp 5] Try.func37 C37_ok C37_res C37_nm 12 Try.ntmps37 [a0, a1] [a0, a1, .any, .any, .any, .any, .any, .any, .any, .any, .any, .any] H Q h 10 (by kernel_rfl) (by kernel_rfl)

/-- impl.given -/
def C96 : CC :=
 (.seq (.ops [⟨some 4, none, .mv (.const (.int .i64 0))⟩])
 (.seq (.ops [⟨some 5, none, .mv (.const (.int .i64 0))⟩])
 (.seq (.seq (.ops [⟨some 8, none, .mv (.tmp 0)⟩,
    ⟨some 9, none, .len false (.tmp 8)⟩,
    ⟨some 10, none, .mv (.const (.int .i64 0))⟩])
  (.block 0 (.loop (.seq (.ops [⟨some 11, none, .bin .lss 0 (.tmp 10) (.tmp 9)⟩])
    (.seq (.cond (.tmp 11) .skip
     (.exit 0))
    (.seq (.block 1 (.seq (.ops [⟨some 12, none, .ia 3 (.tmp 8) (.tmp 10)⟩,
        ⟨some 13, none, .load true 3 (.tmp 12)⟩,
        ⟨some 7, none, .alloc [.string ⟨#[]⟩, .int .i64 0, .int .i64 0]⟩,
        ⟨none, none, .store 3 (.tmp 7) (.tmp 13)⟩])
      (.seq (.ops [⟨some 14, none, .fa 0 (.tmp 7)⟩,
        ⟨some 15, none, .load false 1 (.tmp 14)⟩,
        ⟨some 16, none, .mv (.tmp 1)⟩,
        ⟨some 17, none, .bin .eql 0 (.tmp 15) (.tmp 16)⟩])
      (.cond (.tmp 17) (.ops [⟨some 18, none, .mv (.tmp 5)⟩,
        ⟨some 19, none, .fa 2 (.tmp 7)⟩,
        ⟨some 20, none, .load false 1 (.tmp 19)⟩,
        ⟨some 21, none, .bin .add 0 (.tmp 18) (.tmp 20)⟩,
        ⟨some 5, none, .mv (.tmp 21)⟩])
      .skip))))
    (.ops [⟨some 22, none, .bin .add 0 (.tmp 10) (.const (.int .i64 1))⟩,
     ⟨some 10, none, .mv (.tmp 22)⟩])))))))
 (.seq (.ops [⟨some 23, none, .mv (.tmp 5)⟩,
   ⟨some 4, none, .mv (.tmp 23)⟩])
 .ret))))
theorem C96_ok : Try.f96.body.bind (comp Try.prog) = some C96 := by kernel_rfl
theorem C96_res : compRs Try.prog Try.f96.results.toList = some [.tmp 4] := by kernel_rfl
theorem C96_nm : (Try.f96.name == "runtime.NumGoroutine") = false := by kernel_rfl
theorem C96_fn {a0 a1 : AV} {H : Heap} {Q : AV → Heap → Prop} (h : vc Try.prog C96 (vcEnd [.tmp 4] Q) H [a0, a1, .any, .any, .any, .any, .any, .any, .any, .any, .any, .any, .any, .any, .any, .any, .any, .any, .any, .any, .any, .any, .any, .any]) : Runs Try.prog 96 [a0, a1] H Q :=
  @fn_go Try.prog mixed 96 Try.f96 C96 [.tmp 4] Try.func96 C96_ok C96_res C96_nm 24 Try.ntmps96 [a0, a1] [a0, a1, .any, .any, .any, .any, .any, .any, .any, .any, .any, .any, .any, .any, .any, .any, .any, .any, .any, .any, .any, .any, .any, .any] H Q h 22 (by kernel_rfl) (by kernel_rfl)

/-- impl.GivenSecurity -/
def C38 : CC :=
 (.seq (.ops [⟨some 4, none, .mv (.const (.int .i64 0))⟩,
   ⟨some 5, none, .mv (.const (.int .i64 0))⟩])
 (.seq (.seq (.ops [⟨some 6, none, .mv (.tmp 0)⟩,
    ⟨some 7, none, .call (.func 20) [(.tmp 6)]⟩,
    ⟨some 8, none, .not (.tmp 7)⟩])
  (.cond (.tmp 8) (.seq (.ops [⟨some 4, none, .mv (.const (.int .i64 0))⟩,
     ⟨some 5, none, .mv (.const (.int .i64 1))⟩])
   .ret)
  .skip))
 (.seq (.ops [⟨some 9, none, .mv (.tmp 0)⟩,
   ⟨some 10, none, .mv (.tmp 1)⟩,
   ⟨some 11, none, .call (.func 96) [(.tmp 9), (.tmp 10)]⟩,
   ⟨some 4, none, .mv (.tmp 11)⟩,
   ⟨some 5, none, .mv (.const (.int .i64 0))⟩])
 .ret)))
theorem C38_ok : Try.f38.body.bind (comp Try.prog) = some C38 := by kernel_rfl
theorem C38_res : compRs Try.prog Try.f38.results.toList = some [.tmp 4, .tmp 5] := by kernel_rfl
theorem C38_nm : (Try.f38.name == "runtime.NumGoroutine") = false := by kernel_rfl
theorem C38_fn {a0 a1 : AV} {H : Heap} {Q : AV → Heap → Prop} (h : vc Try.prog C38 (vcEnd [.tmp 4, .tmp 5] Q) H [a0, a1, .any, .any, .any, .any, .any, .any, .any, .any, .any, .any]) : Runs Try.prog 38 [a0, a1] H Q :=
  @fn_go Try.prog mixed 38 Try.f38 C38 [.tmp 4, .tmp 5] Try.func38 C38_ok C38_res C38_nm 12 Try.ntmps38 [a0, a1] [a0, a1, .any, .any, .any, .any, .any, .any, .any, .any, .any, .any] H Q h 10 (by kernel_rfl) (by kernel_rfl)

/-- laws.FnExactGivenSecurity -/
def C8 : CC :=
 (.seq (.ops [⟨some 4, none, .mv (.const (.bool false))⟩])
 (.seq (.seq (.ops [⟨some 11, none, .mv (.tmp 1)⟩,
    ⟨some 12, none, .len true (.tmp 11)⟩,
    ⟨some 13, none, .bin .gtr 0 (.tmp 12) (.const (.int .i64 1048576))⟩])
  (.cond (.tmp 13) (.seq (.ops [⟨some 4, none, .mv (.const (.bool true))⟩])
   .ret)
  .skip))
 (.seq (.ops [⟨some 5, none, .mv (.const (.int .i64 1048576))⟩])
 (.seq (.ops [⟨some 14, none, .mv (.tmp 0)⟩,
   ⟨some 15, none, .mv (.tmp 5)⟩,
   ⟨some 16, none, .call (.func 17) [(.tmp 14), (.tmp 15)]⟩,
   ⟨some 5, none, .mv (.tmp 16)⟩])
 (.seq (.seq (.ops [⟨some 17, none, .mv (.tmp 5)⟩,
    ⟨some 18, none, .bin .lss 0 (.tmp 17) (.const (.int .i64 0))⟩])
  (.cond (.tmp 18) (.seq (.ops [⟨some 4, none, .mv (.const (.bool true))⟩])
   .ret)
  .skip))
 (.seq (.ops [⟨some 20, none, .mv (.tmp 0)⟩,
   ⟨some 21, none, .call (.func 19) [(.tmp 20)]⟩,
   ⟨some 22, none, .mv (.tmp 1)⟩,
   ⟨some 23, none, .call (.func 37) [(.tmp 21), (.tmp 22)]⟩,
   ⟨some 19, none, .mv (.tmp 23)⟩,
   ⟨some 24, none, .ext (.tmp 19) 0⟩,
   ⟨some 25, none, .ext (.tmp 19) 1⟩,
   ⟨some 6, none, .mv (.tmp 24)⟩,
   ⟨some 7, none, .mv (.tmp 25)⟩])
 (.seq (.ops [⟨some 26, none, .mv (.tmp 0)⟩,
   ⟨some 27, none, .call (.func 19) [(.tmp 26)]⟩,
   ⟨some 8, none, .mv (.tmp 27)⟩])
 (.seq (.ops [⟨some 29, none, .mv (.tmp 8)⟩,
   ⟨some 30, none, .mv (.tmp 1)⟩,
   ⟨some 31, none, .call (.func 38) [(.tmp 29), (.tmp 30)]⟩,
   ⟨some 28, none, .mv (.tmp 31)⟩,
   ⟨some 32, none, .ext (.tmp 28) 0⟩,
   ⟨some 33, none, .ext (.tmp 28) 1⟩,
   ⟨some 9, none, .mv (.tmp 32)⟩,
   ⟨some 10, none, .mv (.tmp 33)⟩])
 (.seq (.seq (.ops [⟨some 34, none, .mv (.tmp 9)⟩,
    ⟨some 35, none, .mv (.tmp 6)⟩,
    ⟨some 36, none, .bin .neq 0 (.tmp 34) (.tmp 35)⟩,
    ⟨some 37, none, .mv (.tmp 36)⟩,
    ⟨some 38, some (37, false), .mv (.tmp 10)⟩,
    ⟨some 39, some (37, false), .mv (.tmp 7)⟩,
    ⟨some 40, some (37, false), .bin .neq 0 (.tmp 38) (.tmp 39)⟩,
    ⟨some 41, none, .pick (.tmp 37) (.const (.bool true)) (.tmp 40)⟩])
  (.cond (.tmp 41) (.seq (.ops [⟨some 4, none, .mv (.const (.bool false))⟩])
   .ret)
  .skip))
 (.seq (.seq (.ops [⟨some 42, none, .mv (.tmp 8)⟩,
    ⟨some 43, none, .mv (.tmp 0)⟩,
    ⟨some 44, none, .call (.func 19) [(.tmp 43)]⟩,
    ⟨some 45, none, .call (.func 21) [(.tmp 42), (.tmp 44)]⟩,
    ⟨some 46, none, .not (.tmp 45)⟩])
  (.cond (.tmp 46) (.seq (.ops [⟨some 4, none, .mv (.const (.bool false))⟩])
   .ret)
  .skip))
 (.seq (.ops [⟨some 4, none, .mv (.const (.bool true))⟩])
 .ret)))))))))))
theorem C8_ok : Try.f8.body.bind (comp Try.prog) = some C8 := by kernel_rfl
theorem C8_res : compRs Try.prog Try.f8.results.toList = some [.tmp 4] := by kernel_rfl
theorem C8_nm : (Try.f8.name == "runtime.NumGoroutine") = false := by kernel_rfl
theorem C8_fn {a0 a1 : AV} {H : Heap} {Q : AV → Heap → Prop} (h : vc Try.prog C8 (vcEnd [.tmp 4] Q) H [a0, a1, .any, .any, .any, .any, .any, .any, .any, .any, .any, .any, .any, .any, .any, .any, .any, .any, .any, .any, .any, .any, .any, .any, .any, .any, .any, .any, .any, .any, .any, .any, .any, .any, .any, .any, .any, .any, .any, .any, .any, .any, .any, .any, .any, .any, .any]) : Runs Try.prog 8 [a0, a1] H Q :=
  @fn_go Try.prog mixed 8 Try.f8 C8 [.tmp 4] Try.func8 C8_ok C8_res C8_nm 47 Try.ntmps8 [a0, a1] [a0, a1, .any, .any, .any, .any, .any, .any, .any, .any, .any, .any, .any, .any, .any, .any, .any, .any, .any, .any, .any, .any, .any, .any, .any, .any, .any, .any, .any, .any, .any, .any, .any, .any, .any, .any, .any, .any, .any, .any, .any, .any, .any, .any, .any, .any, .any] H Q h 45 (by kernel_rfl) (by kernel_rfl)

/-- spec.l22Merit -/
def C97 : CC :=
 (.seq (.ops [⟨some 1, none, .box (.tmp 0)⟩,
   ⟨some 2, none, .mv (.const (.int .i64 0))⟩])
 (.seq (.ops [⟨some 3, none, .fa 1 (.tmp 1)⟩,
   ⟨some 4, none, .load false 1 (.tmp 3)⟩,
   ⟨some 5, none, .fa 2 (.tmp 1)⟩,
   ⟨some 6, none, .load false 1 (.tmp 5)⟩,
   ⟨some 7, none, .bin .mul 0 (.tmp 4) (.tmp 6)⟩,
   ⟨some 8, none, .fa 3 (.tmp 1)⟩,
   ⟨some 9, none, .load false 1 (.tmp 8)⟩,
   ⟨some 10, none, .bin .mul 0 (.tmp 7) (.tmp 9)⟩,
   ⟨some 2, none, .mv (.tmp 10)⟩])
 .ret))
theorem C97_ok : Try.f97.body.bind (comp Try.prog) = some C97 := by kernel_rfl
theorem C97_res : compRs Try.prog Try.f97.results.toList = some [.tmp 2] := by kernel_rfl
theorem C97_nm : (Try.f97.name == "runtime.NumGoroutine") = false := by kernel_rfl
theorem C97_fn {a0 : AV} {H : Heap} {Q : AV → Heap → Prop} (h : vc Try.prog C97 (vcEnd [.tmp 2] Q) H [a0, .any, .any, .any, .any, .any, .any, .any, .any, .any, .any]) : Runs Try.prog 97 [a0] H Q :=
  @fn_go Try.prog mixed 97 Try.f97 C97 [.tmp 2] Try.func97 C97_ok C97_res C97_nm 11 Try.ntmps97 [a0] [a0, .any, .any, .any, .any, .any, .any, .any, .any, .any, .any] H Q h 10 (by kernel_rfl) (by kernel_rfl)

/-- spec.BestSalvor -/
def C39 : CC :=
 (.seq (.ops [⟨some 2, none, .mv (.const (.string ⟨#[]⟩))⟩,
   ⟨some 3, none, .mv (.const (.int .i64 0))⟩])
 (.seq (.seq (.ops [⟨some 6, none, .mv (.tmp 0)⟩,
    ⟨some 7, none, .call (.func 33) [(.tmp 6)]⟩,
    ⟨some 8, none, .not (.tmp 7)⟩])
  (.cond (.tmp 8) (.seq (.ops [⟨some 2, none, .mv (.const (.string ⟨#[]⟩))⟩,
     ⟨some 3, none, .mv (.const (.int .i64 1))⟩])
   .ret)
  .skip))
 (.seq (.seq (.ops [⟨some 9, none, .mv (.tmp 0)⟩,
    ⟨some 10, none, .len false (.tmp 9)⟩,
    ⟨some 11, none, .bin .eql 0 (.tmp 10) (.const (.int .i64 0))⟩])
  (.cond (.tmp 11) (.seq (.ops [⟨some 2, none, .mv (.const (.string ⟨#[]⟩))⟩,
     ⟨some 3, none, .mv (.const (.int .i64 4))⟩])
   .ret)
  .skip))
 (.seq (.ops [⟨some 4, none, .mv (.const (.int .i64 0))⟩])
 (.seq (.seq (.ops [⟨some 5, none, .mv (.const (.int .i64 0))⟩])
  (.block 0 (.loop (.seq (.seq (.ops [⟨some 12, none, .mv (.tmp 5)⟩,
       ⟨some 13, none, .mv (.tmp 0)⟩,
       ⟨some 14, none, .len false (.tmp 13)⟩,
       ⟨some 15, none, .bin .lss 0 (.tmp 12) (.tmp 14)⟩])
     (.cond (.tmp 15) .skip
     (.exit 0)))
    (.seq (.block 1 (.seq (.draw 11 [⟨some 18, none, .mv (.tmp 0)⟩,
        ⟨some 19, none, .mv (.tmp 5)⟩,
        ⟨some 20, none, .ia 5 (.tmp 18) (.tmp 19)⟩,
        ⟨some 21, none, .load true 5 (.tmp 20)⟩,
        ⟨some 22, none, .call (.func 97) [(.tmp 21)]⟩,
        ⟨some 23, none, .mv (.tmp 0)⟩,
        ⟨some 24, none, .mv (.tmp 4)⟩,
        ⟨some 25, none, .ia 5 (.tmp 23) (.tmp 24)⟩,
        ⟨some 26, none, .load true 5 (.tmp 25)⟩,
        ⟨some 27, none, .call (.func 97) [(.tmp 26)]⟩,
        ⟨some 28, none, .bin .gtr 0 (.tmp 22) (.tmp 27)⟩])
      (.cond (.tmp 28) (.ops [⟨some 29, none, .mv (.tmp 5)⟩,
        ⟨some 4, none, .mv (.tmp 29)⟩])
      .skip)))
    (.ops [⟨some 16, none, .mv (.tmp 5)⟩,
     ⟨some 17, none, .bin .add 0 (.tmp 16) (.const (.int .i64 1))⟩,
     ⟨some 5, none, .mv (.tmp 17)⟩]))))))
 (.seq (.ops [⟨some 30, none, .mv (.tmp 0)⟩,
   ⟨some 31, none, .mv (.tmp 4)⟩,
   ⟨some 32, none, .ia 5 (.tmp 30) (.tmp 31)⟩,
   ⟨some 33, none, .fa 0 (.tmp 32)⟩,
   ⟨some 34, none, .load false 1 (.tmp 33)⟩,
   ⟨some 2, none, .mv (.tmp 34)⟩,
   ⟨some 3, none, .mv (.const (.int .i64 0))⟩])
 .ret))))))
theorem C39_ok : Try.f39.body.bind (comp Try.prog) = some C39 := by kernel_rfl
theorem C39_res : compRs Try.prog Try.f39.results.toList = some [.tmp 2, .tmp 3] := by kernel_rfl
theorem C39_nm : (Try.f39.name == "runtime.NumGoroutine") = false := by kernel_rfl
theorem C39_fn {a0 : AV} {H : Heap} {Q : AV → Heap → Prop} (h : vc Try.prog C39 (vcEnd [.tmp 2, .tmp 3] Q) H [a0, .any, .any, .any, .any, .any, .any, .any, .any, .any, .any, .any, .any, .any, .any, .any, .any, .any, .any, .any, .any, .any, .any, .any, .any, .any, .any, .any, .any, .any, .any, .any, .any, .any, .any]) : Runs Try.prog 39 [a0] H Q :=
  @fn_go Try.prog mixed 39 Try.f39 C39 [.tmp 2, .tmp 3] Try.func39 C39_ok C39_res C39_nm 35 Try.ntmps39 [a0] [a0, .any, .any, .any, .any, .any, .any, .any, .any, .any, .any, .any, .any, .any, .any, .any, .any, .any, .any, .any, .any, .any, .any, .any, .any, .any, .any, .any, .any, .any, .any, .any, .any, .any, .any] H Q h 34 (by kernel_rfl) (by kernel_rfl)

/-- (impl.Claim).merit -/
def C98 : CC :=
 (.seq (.ops [⟨some 1, none, .box (.tmp 0)⟩,
   ⟨some 2, none, .mv (.const (.int .i64 0))⟩])
 (.seq (.ops [⟨some 3, none, .fa 1 (.tmp 1)⟩,
   ⟨some 4, none, .load false 1 (.tmp 3)⟩,
   ⟨some 5, none, .fa 2 (.tmp 1)⟩,
   ⟨some 6, none, .load false 1 (.tmp 5)⟩,
   ⟨some 7, none, .bin .mul 0 (.tmp 4) (.tmp 6)⟩,
   ⟨some 8, none, .fa 3 (.tmp 1)⟩,
   ⟨some 9, none, .load false 1 (.tmp 8)⟩,
   ⟨some 10, none, .bin .mul 0 (.tmp 7) (.tmp 9)⟩,
   ⟨some 2, none, .mv (.tmp 10)⟩])
 .ret))
theorem C98_ok : Try.f98.body.bind (comp Try.prog) = some C98 := by kernel_rfl
theorem C98_res : compRs Try.prog Try.f98.results.toList = some [.tmp 2] := by kernel_rfl
theorem C98_nm : (Try.f98.name == "runtime.NumGoroutine") = false := by kernel_rfl
theorem C98_fn {a0 : AV} {H : Heap} {Q : AV → Heap → Prop} (h : vc Try.prog C98 (vcEnd [.tmp 2] Q) H [a0, .any, .any, .any, .any, .any, .any, .any, .any, .any, .any]) : Runs Try.prog 98 [a0] H Q :=
  @fn_go Try.prog mixed 98 Try.f98 C98 [.tmp 2] Try.func98 C98_ok C98_res C98_nm 11 Try.ntmps98 [a0] [a0, .any, .any, .any, .any, .any, .any, .any, .any, .any, .any] H Q h 10 (by kernel_rfl) (by kernel_rfl)

/-- impl.BestSalvor -/
def C40 : CC :=
 (.seq (.ops [⟨some 2, none, .mv (.const (.string ⟨#[]⟩))⟩,
   ⟨some 3, none, .mv (.const (.int .i64 0))⟩])
 (.seq (.block 0 (.seq (.ops [⟨some 8, none, .mv (.tmp 0)⟩,
     ⟨some 9, none, .call (.func 35) [(.tmp 8)]⟩,
     ⟨some 10, none, .not (.tmp 9)⟩,
     ⟨some 7, none, .mv (.tmp 10)⟩])
   (.cond (.tmp 7) (.seq (.ops [⟨some 2, none, .mv (.const (.string ⟨#[]⟩))⟩,
      ⟨some 3, none, .mv (.const (.int .i64 1))⟩])
    .ret)
   (.seq (.ops [⟨some 12, none, .mv (.tmp 0)⟩,
      ⟨some 13, none, .len false (.tmp 12)⟩,
      ⟨some 14, none, .bin .eql 0 (.tmp 13) (.const (.int .i64 0))⟩,
      ⟨some 11, none, .mv (.tmp 14)⟩])
    (.cond (.tmp 11) (.seq (.ops [⟨some 2, none, .mv (.const (.string ⟨#[]⟩))⟩,
       ⟨some 3, none, .mv (.const (.int .i64 4))⟩])
     .ret)
    .skip)))))
 (.seq (.ops [⟨some 15, none, .mv (.tmp 0)⟩,
   ⟨some 16, none, .ia 5 (.tmp 15) (.const (.int .i64 0))⟩,
   ⟨some 17, none, .load true 5 (.tmp 16)⟩,
   ⟨some 4, none, .alloc [.string ⟨#[]⟩, .int .i64 0, .int .i64 0, .int .i64 0, .int .i64 0]⟩,
   ⟨none, none, .store 5 (.tmp 4) (.tmp 17)⟩])
 (.seq (.seq (.ops [⟨some 18, none, .mv (.tmp 0)⟩,
    ⟨some 19, none, .len false (.tmp 18)⟩,
    ⟨some 20, none, .mv (.const (.int .i64 0))⟩])
  (.block 1 (.loop (.seq (.ops [⟨some 21, none, .bin .lss 0 (.tmp 20) (.tmp 19)⟩])
    (.seq (.cond (.tmp 21) .skip
     (.exit 1))
    (.seq (.block 2 (.seq (.ops [⟨some 22, none, .ia 5 (.tmp 18) (.tmp 20)⟩,
        ⟨some 23, none, .load true 5 (.tmp 22)⟩,
        ⟨some 6, none, .alloc [.string ⟨#[]⟩, .int .i64 0, .int .i64 0, .int .i64 0, .int .i64 0]⟩,
        ⟨none, none, .store 5 (.tmp 6) (.tmp 23)⟩])
      (.seq (.draw 5 [⟨some 24, none, .load true 5 (.tmp 6)⟩,
        ⟨some 25, none, .call (.func 98) [(.tmp 24)]⟩,
        ⟨some 26, none, .load true 5 (.tmp 4)⟩,
        ⟨some 27, none, .call (.func 98) [(.tmp 26)]⟩,
        ⟨some 28, none, .bin .gtr 0 (.tmp 25) (.tmp 27)⟩])
      (.cond (.tmp 28) (.ops [⟨some 29, none, .load true 5 (.tmp 6)⟩,
        ⟨none, none, .store 5 (.tmp 4) (.tmp 29)⟩])
      .skip))))
    (.ops [⟨some 30, none, .bin .add 0 (.tmp 20) (.const (.int .i64 1))⟩,
     ⟨some 20, none, .mv (.tmp 30)⟩])))))))
 (.seq (.ops [⟨some 31, none, .fa 0 (.tmp 4)⟩,
   ⟨some 32, none, .load false 1 (.tmp 31)⟩,
   ⟨some 2, none, .mv (.tmp 32)⟩,
   ⟨some 3, none, .mv (.const (.int .i64 0))⟩])
 .ret)))))
theorem C40_ok : Try.f40.body.bind (comp Try.prog) = some C40 := by kernel_rfl
theorem C40_res : compRs Try.prog Try.f40.results.toList = some [.tmp 2, .tmp 3] := by kernel_rfl
theorem C40_nm : (Try.f40.name == "runtime.NumGoroutine") = false := by kernel_rfl
theorem C40_fn {a0 : AV} {H : Heap} {Q : AV → Heap → Prop} (h : vc Try.prog C40 (vcEnd [.tmp 2, .tmp 3] Q) H [a0, .any, .any, .any, .any, .any, .any, .any, .any, .any, .any, .any, .any, .any, .any, .any, .any, .any, .any, .any, .any, .any, .any, .any, .any, .any, .any, .any, .any, .any, .any, .any, .any]) : Runs Try.prog 40 [a0] H Q :=
  @fn_go Try.prog mixed 40 Try.f40 C40 [.tmp 2, .tmp 3] Try.func40 C40_ok C40_res C40_nm 33 Try.ntmps40 [a0] [a0, .any, .any, .any, .any, .any, .any, .any, .any, .any, .any, .any, .any, .any, .any, .any, .any, .any, .any, .any, .any, .any, .any, .any, .any, .any, .any, .any, .any, .any, .any, .any, .any] H Q h 32 (by kernel_rfl) (by kernel_rfl)

/-- laws.FnExactBestSalvor -/
def C9 : CC :=
 (.seq (.ops [⟨some 2, none, .mv (.const (.bool false))⟩])
 (.seq (.ops [⟨some 3, none, .mv (.const (.int .i64 1048576))⟩])
 (.seq (.ops [⟨some 9, none, .mv (.tmp 0)⟩,
   ⟨some 10, none, .mv (.tmp 3)⟩,
   ⟨some 11, none, .call (.func 32) [(.tmp 9), (.tmp 10)]⟩,
   ⟨some 3, none, .mv (.tmp 11)⟩])
 (.seq (.seq (.ops [⟨some 12, none, .mv (.tmp 3)⟩,
    ⟨some 13, none, .bin .lss 0 (.tmp 12) (.const (.int .i64 0))⟩])
  (.cond (.tmp 13) (.seq (.ops [⟨some 2, none, .mv (.const (.bool true))⟩])
   .ret)
  .skip))
 (.seq (.ops [⟨some 15, none, .mv (.tmp 0)⟩,
   ⟨some 16, none, .call (.func 34) [(.tmp 15)]⟩,
   ⟨some 17, none, .call (.func 39) [(.tmp 16)]⟩,
   ⟨some 14, none, .mv (.tmp 17)⟩,
   ⟨some 18, none, .ext (.tmp 14) 0⟩,
   ⟨some 19, none, .ext (.tmp 14) 1⟩,
   ⟨some 4, none, .mv (.tmp 18)⟩,
   ⟨some 5, none, .mv (.tmp 19)⟩])
 (.seq (.ops [⟨some 20, none, .mv (.tmp 0)⟩,
   ⟨some 21, none, .call (.func 34) [(.tmp 20)]⟩,
   ⟨some 6, none, .mv (.tmp 21)⟩])
 (.seq (.ops [⟨some 23, none, .mv (.tmp 6)⟩,
   ⟨some 24, none, .call (.func 40) [(.tmp 23)]⟩,
   ⟨some 22, none, .mv (.tmp 24)⟩,
   ⟨some 25, none, .ext (.tmp 22) 0⟩,
   ⟨some 26, none, .ext (.tmp 22) 1⟩,
   ⟨some 7, none, .mv (.tmp 25)⟩,
   ⟨some 8, none, .mv (.tmp 26)⟩])
 (.seq (.seq (.ops [⟨some 27, none, .mv (.tmp 7)⟩,
    ⟨some 28, none, .mv (.tmp 4)⟩,
    ⟨some 29, none, .bin .neq 0 (.tmp 27) (.tmp 28)⟩,
    ⟨some 30, none, .mv (.tmp 29)⟩,
    ⟨some 31, some (30, false), .mv (.tmp 8)⟩,
    ⟨some 32, some (30, false), .mv (.tmp 5)⟩,
    ⟨some 33, some (30, false), .bin .neq 0 (.tmp 31) (.tmp 32)⟩,
    ⟨some 34, none, .pick (.tmp 30) (.const (.bool true)) (.tmp 33)⟩])
  (.cond (.tmp 34) (.seq (.ops [⟨some 2, none, .mv (.const (.bool false))⟩])
   .ret)
  .skip))
 (.seq (.seq (.ops [⟨some 35, none, .mv (.tmp 6)⟩,
    ⟨some 36, none, .mv (.tmp 0)⟩,
    ⟨some 37, none, .call (.func 34) [(.tmp 36)]⟩,
    ⟨some 38, none, .call (.func 36) [(.tmp 35), (.tmp 37)]⟩,
    ⟨some 39, none, .not (.tmp 38)⟩])
  (.cond (.tmp 39) (.seq (.ops [⟨some 2, none, .mv (.const (.bool false))⟩])
   .ret)
  .skip))
 (.seq (.ops [⟨some 2, none, .mv (.const (.bool true))⟩])
 .ret))))))))))
theorem C9_ok : Try.f9.body.bind (comp Try.prog) = some C9 := by kernel_rfl
theorem C9_res : compRs Try.prog Try.f9.results.toList = some [.tmp 2] := by kernel_rfl
theorem C9_nm : (Try.f9.name == "runtime.NumGoroutine") = false := by kernel_rfl
theorem C9_fn {a0 : AV} {H : Heap} {Q : AV → Heap → Prop} (h : vc Try.prog C9 (vcEnd [.tmp 2] Q) H [a0, .any, .any, .any, .any, .any, .any, .any, .any, .any, .any, .any, .any, .any, .any, .any, .any, .any, .any, .any, .any, .any, .any, .any, .any, .any, .any, .any, .any, .any, .any, .any, .any, .any, .any, .any, .any, .any, .any, .any]) : Runs Try.prog 9 [a0] H Q :=
  @fn_go Try.prog mixed 9 Try.f9 C9 [.tmp 2] Try.func9 C9_ok C9_res C9_nm 40 Try.ntmps9 [a0] [a0, .any, .any, .any, .any, .any, .any, .any, .any, .any, .any, .any, .any, .any, .any, .any, .any, .any, .any, .any, .any, .any, .any, .any, .any, .any, .any, .any, .any, .any, .any, .any, .any, .any, .any, .any, .any, .any, .any, .any] H Q h 39 (by kernel_rfl) (by kernel_rfl)

/-- spec.l04Result -/
def C99 : CC :=
 (.seq (.ops [⟨some 2, none, .mv (.const (.int .i64 0))⟩,
   ⟨some 3, none, .mv (.const (.int .i64 0))⟩])
 (.seq (.seq (.ops [⟨some 4, none, .mv (.tmp 0)⟩,
    ⟨some 5, none, .call (.func 58) [(.tmp 4)]⟩,
    ⟨some 6, none, .not (.tmp 5)⟩])
  (.cond (.tmp 6) (.seq (.ops [⟨some 2, none, .mv (.const (.int .i64 0))⟩,
     ⟨some 3, none, .mv (.const (.int .i64 3))⟩])
   .ret)
  .skip))
 (.seq (.ops [⟨some 7, none, .mv (.tmp 0)⟩,
   ⟨some 2, none, .mv (.tmp 7)⟩,
   ⟨some 3, none, .mv (.const (.int .i64 0))⟩])
 .ret)))
theorem C99_ok : Try.f99.body.bind (comp Try.prog) = some C99 := by kernel_rfl
theorem C99_res : compRs Try.prog Try.f99.results.toList = some [.tmp 2, .tmp 3] := by kernel_rfl
theorem C99_nm : (Try.f99.name == "runtime.NumGoroutine") = false := by kernel_rfl
theorem C99_fn {a0 : AV} {H : Heap} {Q : AV → Heap → Prop} (h : vc Try.prog C99 (vcEnd [.tmp 2, .tmp 3] Q) H [a0, .any, .any, .any, .any, .any, .any, .any]) : Runs Try.prog 99 [a0] H Q :=
  @fn_go Try.prog mixed 99 Try.f99 C99 [.tmp 2, .tmp 3] Try.func99 C99_ok C99_res C99_nm 8 Try.ntmps99 [a0] [a0, .any, .any, .any, .any, .any, .any, .any] H Q h 7 (by kernel_rfl) (by kernel_rfl)

/-- spec.FundUpTo -/
def C41 : CC :=
 (.seq (.ops [⟨some 4, none, .mv (.const (.int .i64 0))⟩,
   ⟨some 5, none, .mv (.const (.int .i64 0))⟩])
 (.seq (.seq (.ops [⟨some 8, none, .mv (.tmp 0)⟩,
    ⟨some 9, none, .call (.func 23) [(.tmp 8)]⟩,
    ⟨some 10, none, .not (.tmp 9)⟩])
  (.cond (.tmp 10) (.seq (.ops [⟨some 4, none, .mv (.const (.int .i64 0))⟩,
     ⟨some 5, none, .mv (.const (.int .i64 1))⟩])
   .ret)
  .skip))
 (.seq (.seq (.ops [⟨some 11, none, .mv (.tmp 1)⟩,
    ⟨some 12, none, .call (.func 72) [(.tmp 11)]⟩,
    ⟨some 13, none, .not (.tmp 12)⟩])
  (.cond (.tmp 13) (.seq (.ops [⟨some 4, none, .mv (.const (.int .i64 0))⟩,
     ⟨some 5, none, .mv (.const (.int .i64 2))⟩])
   .ret)
  .skip))
 (.seq (.ops [⟨some 6, none, .mv (.const (.int .i64 0))⟩])
 (.seq (.seq (.ops [⟨some 7, none, .mv (.const (.int .i64 0))⟩])
  (.block 0 (.loop (.seq (.seq (.ops [⟨some 14, none, .mv (.tmp 7)⟩,
       ⟨some 15, none, .mv (.tmp 0)⟩,
       ⟨some 16, none, .len false (.tmp 15)⟩,
       ⟨some 17, none, .bin .lss 0 (.tmp 14) (.tmp 16)⟩])
     (.cond (.tmp 17) .skip
     (.exit 0)))
    (.seq (.block 1 (.seq (.ops [⟨some 20, none, .mv (.tmp 0)⟩,
        ⟨some 21, none, .mv (.tmp 7)⟩,
        ⟨some 22, none, .ia 3 (.tmp 20) (.tmp 21)⟩,
        ⟨some 23, none, .fa 1 (.tmp 22)⟩,
        ⟨some 24, none, .load false 1 (.tmp 23)⟩,
        ⟨some 25, none, .mv (.tmp 1)⟩,
        ⟨some 26, none, .bin .leq 0 (.tmp 24) (.tmp 25)⟩])
      (.cond (.tmp 26) (.ops [⟨some 27, none, .mv (.tmp 6)⟩,
        ⟨some 28, none, .mv (.tmp 0)⟩,
        ⟨some 29, none, .mv (.tmp 7)⟩,
        ⟨some 30, none, .ia 3 (.tmp 28) (.tmp 29)⟩,
        ⟨some 31, none, .fa 2 (.tmp 30)⟩,
        ⟨some 32, none, .load false 1 (.tmp 31)⟩,
        ⟨some 33, none, .bin .add 0 (.tmp 27) (.tmp 32)⟩,
        ⟨some 6, none, .mv (.tmp 33)⟩])
      .skip)))
    (.ops [⟨some 18, none, .mv (.tmp 7)⟩,
     ⟨some 19, none, .bin .add 0 (.tmp 18) (.const (.int .i64 1))⟩,
     ⟨some 7, none, .mv (.tmp 19)⟩]))))))
 (.seq (.ops [⟨some 34, none, .mv (.tmp 6)⟩,
   ⟨some 35, none, .call (.func 99) [(.tmp 34)]⟩,
   ⟨some 36, none, .ext (.tmp 35) 0⟩,
   ⟨some 37, none, .ext (.tmp 35) 1⟩,
   ⟨some 4, none, .mv (.tmp 36)⟩,
   ⟨some 5, none, .mv (.tmp 37)⟩])
 .ret))))))
theorem C41_ok : Try.f41.body.bind (comp Try.prog) = some C41 := by kernel_rfl
theorem C41_res : compRs Try.prog Try.f41.results.toList = some [.tmp 4, .tmp 5] := by kernel_rfl
theorem C41_nm : (Try.f41.name == "runtime.NumGoroutine") = false := by kernel_rfl
theorem C41_fn {a0 a1 : AV} {H : Heap} {Q : AV → Heap → Prop} (h : vc Try.prog C41 (vcEnd [.tmp 4, .tmp 5] Q) H [a0, a1, .any, .any, .any, .any, .any, .any, .any, .any, .any, .any, .any, .any, .any, .any, .any, .any, .any, .any, .any, .any, .any, .any, .any, .any, .any, .any, .any, .any, .any, .any, .any, .any, .any, .any, .any, .any]) : Runs Try.prog 41 [a0, a1] H Q :=
  @fn_go Try.prog mixed 41 Try.f41 C41 [.tmp 4, .tmp 5] Try.func41 C41_ok C41_res C41_nm 38 Try.ntmps41 [a0, a1] [a0, a1, .any, .any, .any, .any, .any, .any, .any, .any, .any, .any, .any, .any, .any, .any, .any, .any, .any, .any, .any, .any, .any, .any, .any, .any, .any, .any, .any, .any, .any, .any, .any, .any, .any, .any, .any, .any] H Q h 36 (by kernel_rfl) (by kernel_rfl)

end Go.Proofs.Ytcbijbckbloadaa
