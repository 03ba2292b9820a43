/- The code of the functions, in the form of our laws; each is the program's own, by the kernel. Written by a program of ours. -/
import Derived.Test.YtpaflfaokgapgaaB0
import Derived.KernelRfl
namespace Go.Proofs.Ytpaflfaokgapgaa
open Go.Abs

/-- impl.all[impl.Policy] -/
def C127 : CC :=
 (.seq (.ops [⟨some 3, none, .box (.tmp 1)⟩,
   ⟨some 4, none, .mv (.const (.bool false))⟩])
 (.seq (.ops [⟨some 5, none, .mv (.tmp 0)⟩,
   ⟨some 6, none, .mkf 154 [(.tmp 3)]⟩,
   ⟨some 7, none, .call (.func 153) [(.tmp 5), (.tmp 6)]⟩,
   ⟨some 8, none, .not (.tmp 7)⟩,
   ⟨some 4, none, .mv (.tmp 8)⟩])
 .ret))
theorem C127_ok : Try.f127.body.bind (comp Try.prog) = some C127 := by kernel_rfl
theorem C127_res : compRs Try.prog Try.f127.results.toList = some [.tmp 4] := by kernel_rfl
theorem C127_nm : (Try.f127.name == "runtime.NumGoroutine") = false := by kernel_rfl
theorem C127_fn {a0 a1 : AV} {H : Heap} {Q : AV → Heap → Prop} (h : vc Try.prog C127 (vcEnd [.tmp 4] Q) H [a0, a1, .any, .any, .any, .any, .any, .any, .any]) : Runs Try.prog 127 [a0, a1] H Q :=
  @fn_go Try.prog mixed 127 Try.f127 C127 [.tmp 4] Try.func127 C127_ok C127_res C127_nm 9 Try.ntmps127 [a0, a1] [a0, a1, .any, .any, .any, .any, .any, .any, .any] H Q h 7 (by kernel_rfl) (by kernel_rfl)

/-- impl.IsAmount -/
def C136 : CC :=
 (.seq (.ops [⟨some 2, none, .mv (.const (.bool false))⟩])
 (.seq (.ops [⟨some 3, none, .mv (.tmp 0)⟩,
   ⟨some 4, none, .call (.func 120) [(.tmp 3), (.const (.int .i64 0)), (.const (.int .i64 1000000000))]⟩,
   ⟨some 2, none, .mv (.tmp 4)⟩])
 .ret))
theorem C136_ok : Try.f136.body.bind (comp Try.prog) = some C136 := by kernel_rfl
theorem C136_res : compRs Try.prog Try.f136.results.toList = some [.tmp 2] := by kernel_rfl
theorem C136_nm : (Try.f136.name == "runtime.NumGoroutine") = false := by kernel_rfl
theorem C136_fn {a0 : AV} {H : Heap} {Q : AV → Heap → Prop} (h : vc Try.prog C136 (vcEnd [.tmp 2] Q) H [a0, .any, .any, .any, .any]) : Runs Try.prog 136 [a0] H Q :=
  @fn_go Try.prog mixed 136 Try.f136 C136 [.tmp 2] Try.func136 C136_ok C136_res C136_nm 5 Try.ntmps136 [a0] [a0, .any, .any, .any, .any] H Q h 4 (by kernel_rfl) (by kernel_rfl)

/-- impl.isPolicy -/
def C128 : CC :=
 (.seq (.ops [⟨some 1, none, .box (.tmp 0)⟩,
   ⟨some 2, none, .mv (.const (.bool false))⟩])
 (.seq (.ops [⟨some 3, none, .fa 0 (.tmp 1)⟩,
   ⟨some 4, none, .load false 1 (.tmp 3)⟩,
   ⟨some 5, none, .call (.func 118) [(.tmp 4)]⟩,
   ⟨some 6, none, .mv (.tmp 5)⟩,
   ⟨some 7, some (6, true), .fa 1 (.tmp 1)⟩,
   ⟨some 8, some (6, true), .load false 1 (.tmp 7)⟩,
   ⟨some 9, some (6, true), .call (.func 118) [(.tmp 8)]⟩,
   ⟨some 10, none, .pick (.tmp 6) (.tmp 9) (.const (.bool false))⟩,
   ⟨some 11, none, .mv (.tmp 10)⟩,
   ⟨some 12, some (11, true), .fa 2 (.tmp 1)⟩,
   ⟨some 13, some (11, true), .load false 1 (.tmp 12)⟩,
   ⟨some 14, some (11, true), .call (.func 136) [(.tmp 13)]⟩,
   ⟨some 15, none, .pick (.tmp 11) (.tmp 14) (.const (.bool false))⟩,
   ⟨some 2, none, .mv (.tmp 15)⟩])
 .ret))
theorem C128_ok : Try.f128.body.bind (comp Try.prog) = some C128 := by kernel_rfl
theorem C128_res : compRs Try.prog Try.f128.results.toList = some [.tmp 2] := by kernel_rfl
theorem C128_nm : (Try.f128.name == "runtime.NumGoroutine") = false := by kernel_rfl
theorem C128_fn {a0 : AV} {H : Heap} {Q : AV → Heap → Prop} (h : vc Try.prog C128 (vcEnd [.tmp 2] Q) H [a0, .any, .any, .any, .any, .any, .any, .any, .any, .any, .any, .any, .any, .any, .any, .any]) : Runs Try.prog 128 [a0] H Q :=
  @fn_go Try.prog mixed 128 Try.f128 C128 [.tmp 2] Try.func128 C128_ok C128_res C128_nm 16 Try.ntmps128 [a0] [a0, .any, .any, .any, .any, .any, .any, .any, .any, .any, .any, .any, .any, .any, .any, .any] H Q h 15 (by kernel_rfl) (by kernel_rfl)

/-- impl.rising[impl.Policy] -/
def C129 : CC :=
 (.seq (.ops [⟨some 4, none, .mv (.const (.bool false))⟩])
 (.seq (.seq (.ops [⟨some 5, none, .mv (.const (.int .i64 1))⟩])
  (.block 0 (.loop (.seq (.seq (.ops [⟨some 6, none, .mv (.tmp 5)⟩,
       ⟨some 7, none, .mv (.tmp 0)⟩,
       ⟨some 8, none, .len false (.tmp 7)⟩,
       ⟨some 9, none, .bin .lss 0 (.tmp 6) (.tmp 8)⟩])
     (.cond (.tmp 9) .skip
     (.exit 0)))
    (.seq (.block 1 (.seq (.draw 12 [⟨some 12, none, .mv (.tmp 1)⟩,
        ⟨some 13, none, .mv (.tmp 0)⟩,
        ⟨some 14, none, .mv (.tmp 5)⟩,
        ⟨some 15, none, .bin .sub 0 (.tmp 14) (.const (.int .i64 1))⟩,
        ⟨some 16, none, .ia 3 (.tmp 13) (.tmp 15)⟩,
        ⟨some 17, none, .load true 3 (.tmp 16)⟩,
        ⟨some 18, none, .mv (.tmp 0)⟩,
        ⟨some 19, none, .mv (.tmp 5)⟩,
        ⟨some 20, none, .ia 3 (.tmp 18) (.tmp 19)⟩,
        ⟨some 21, none, .load true 3 (.tmp 20)⟩,
        ⟨some 22, none, .call (.tmp 12) [(.tmp 17), (.tmp 21)]⟩,
        ⟨some 23, none, .bin .geq 0 (.tmp 22) (.const (.int .i64 0))⟩])
      (.cond (.tmp 23) (.seq (.ops [⟨some 4, none, .mv (.const (.bool false))⟩])
       .ret)
      .skip)))
    (.ops [⟨some 10, none, .mv (.tmp 5)⟩,
     ⟨some 11, none, .bin .add 0 (.tmp 10) (.const (.int .i64 1))⟩,
     ⟨some 5, none, .mv (.tmp 11)⟩]))))))
 (.seq (.ops [⟨some 4, none, .mv (.const (.bool true))⟩])
 .ret)))
theorem C129_ok : Try.f129.body.bind (comp Try.prog) = some C129 := by kernel_rfl
theorem C129_res : compRs Try.prog Try.f129.results.toList = some [.tmp 4] := by kernel_rfl
theorem C129_nm : (Try.f129.name == "runtime.NumGoroutine") = false := by kernel_rfl
theorem C129_fn {a0 a1 : AV} {H : Heap} {Q : AV → Heap → Prop} (h : vc Try.prog C129 (vcEnd [.tmp 4] Q) H [a0, a1, .any, .any, .any, .any, .any, .any, .any, .any, .any, .any, .any, .any, .any, .any, .any, .any, .any, .any, .any, .any, .any, .any]) : Runs Try.prog 129 [a0, a1] H Q :=
  @fn_go Try.prog mixed 129 Try.f129 C129 [.tmp 4] Try.func129 C129_ok C129_res C129_nm 24 Try.ntmps129 [a0, a1] [a0, a1, .any, .any, .any, .any, .any, .any, .any, .any, .any, .any, .any, .any, .any, .any, .any, .any, .any, .any, .any, .any, .any, .any] H Q h 22 (by kernel_rfl) (by kernel_rfl)

/-- impl.IsCover -/
def C99 : CC :=
 (.seq (.ops [⟨some 2, none, .mv (.const (.bool false))⟩])
 (.seq (.ops [⟨some 3, none, .mv (.tmp 0)⟩,
   ⟨some 4, none, .len false (.tmp 3)⟩,
   ⟨some 5, none, .bin .leq 0 (.tmp 4) (.const (.int .i64 10))⟩,
   ⟨some 6, none, .mv (.tmp 5)⟩,
   ⟨some 7, some (6, true), .mv (.tmp 0)⟩,
   ⟨some 8, some (6, true), .call (.func 127) [(.tmp 7), (.func 128)]⟩,
   ⟨some 9, none, .pick (.tmp 6) (.tmp 8) (.const (.bool false))⟩,
   ⟨some 10, none, .mv (.tmp 9)⟩,
   ⟨some 11, some (10, true), .mv (.tmp 0)⟩,
   ⟨some 12, some (10, true), .call (.func 129) [(.tmp 11), (.func 101)]⟩,
   ⟨some 13, none, .pick (.tmp 10) (.tmp 12) (.const (.bool false))⟩,
   ⟨some 2, none, .mv (.tmp 13)⟩])
 .ret))
theorem C99_ok : Try.f99.body.bind (comp Try.prog) = some C99 := by kernel_rfl
theorem C99_res : compRs Try.prog Try.f99.results.toList = some [.tmp 2] := by kernel_rfl
theorem C99_nm : (Try.f99.name == "runtime.NumGoroutine") = false := by kernel_rfl
theorem C99_fn {a0 : AV} {H : Heap} {Q : AV → Heap → Prop} (h : vc Try.prog C99 (vcEnd [.tmp 2] Q) H [a0, .any, .any, .any, .any, .any, .any, .any, .any, .any, .any, .any, .any, .any]) : Runs Try.prog 99 [a0] H Q :=
  @fn_go Try.prog mixed 99 Try.f99 C99 [.tmp 2] Try.func99 C99_ok C99_res C99_nm 14 Try.ntmps99 [a0] [a0, .any, .any, .any, .any, .any, .any, .any, .any, .any, .any, .any, .any, .any] H Q h 13 (by kernel_rfl) (by kernel_rfl)

/-- slices.BinarySearchFunc[[]impl.Policy,impl.Policy,impl.Policy] -/
def C130 : CC :=
 (.seq (.ops [⟨some 4, none, .box (.tmp 1)⟩,
   ⟨some 6, none, .mv (.const (.int .i64 0))⟩,
   ⟨some 7, none, .mv (.const (.bool false))⟩])
 (.seq (.ops [⟨some 12, none, .mv (.tmp 0)⟩,
   ⟨some 13, none, .len false (.tmp 12)⟩,
   ⟨some 8, none, .mv (.tmp 13)⟩])
 (.seq (.ops [⟨some 14, none, .mv (.tmp 8)⟩,
   ⟨some 9, none, .mv (.const (.int .i64 0))⟩,
   ⟨some 10, none, .mv (.tmp 14)⟩])
 (.seq (.block 0 (.loop (.seq (.seq (.ops [⟨some 15, none, .mv (.tmp 9)⟩,
       ⟨some 16, none, .mv (.tmp 10)⟩,
       ⟨some 17, none, .bin .lss 0 (.tmp 15) (.tmp 16)⟩])
     (.cond (.tmp 17) .skip
     (.exit 0)))
    (.block 1 (.seq (.ops [⟨some 18, none, .mv (.tmp 9)⟩,
       ⟨some 19, none, .mv (.tmp 10)⟩,
       ⟨some 20, none, .bin .add 0 (.tmp 18) (.tmp 19)⟩,
       ⟨some 21, none, .conv .u64 (.tmp 20)⟩,
       ⟨some 22, none, .bin .shr 0 (.tmp 21) (.const (.int .u64 1))⟩,
       ⟨some 23, none, .conv .i64 (.tmp 22)⟩,
       ⟨some 11, none, .mv (.tmp 23)⟩])
     (.seq (.draw 8 [⟨some 24, none, .mv (.tmp 2)⟩,
       ⟨some 25, none, .mv (.tmp 0)⟩,
       ⟨some 26, none, .mv (.tmp 11)⟩,
       ⟨some 27, none, .ia 3 (.tmp 25) (.tmp 26)⟩,
       ⟨some 28, none, .load true 3 (.tmp 27)⟩,
       ⟨some 29, none, .load true 3 (.tmp 4)⟩,
       ⟨some 30, none, .call (.tmp 24) [(.tmp 28), (.tmp 29)]⟩,
       ⟨some 31, none, .bin .lss 0 (.tmp 30) (.const (.int .i64 0))⟩])
     (.cond (.tmp 31) (.ops [⟨some 32, none, .mv (.tmp 11)⟩,
       ⟨some 33, none, .bin .add 0 (.tmp 32) (.const (.int .i64 1))⟩,
       ⟨some 9, none, .mv (.tmp 33)⟩])
     (.ops [⟨some 34, none, .mv (.tmp 11)⟩,
       ⟨some 10, none, .mv (.tmp 34)⟩]))))))))
 (.seq (.draw 15 [⟨some 35, none, .mv (.tmp 9)⟩,
   ⟨some 36, none, .mv (.tmp 9)⟩,
   ⟨some 37, none, .mv (.tmp 8)⟩,
   ⟨some 38, none, .bin .lss 0 (.tmp 36) (.tmp 37)⟩,
   ⟨some 39, none, .mv (.tmp 38)⟩,
   ⟨some 40, some (39, true), .mv (.tmp 2)⟩,
   ⟨some 41, some (39, true), .mv (.tmp 0)⟩,
   ⟨some 42, some (39, true), .mv (.tmp 9)⟩,
   ⟨some 43, some (39, true), .ia 3 (.tmp 41) (.tmp 42)⟩,
   ⟨some 44, some (39, true), .load true 3 (.tmp 43)⟩,
   ⟨some 45, some (39, true), .load true 3 (.tmp 4)⟩,
   ⟨some 46, some (39, true), .call (.tmp 40) [(.tmp 44), (.tmp 45)]⟩,
   ⟨some 47, some (39, true), .bin .eql 0 (.tmp 46) (.const (.int .i64 0))⟩,
   ⟨some 48, none, .pick (.tmp 39) (.tmp 47) (.const (.bool false))⟩,
   ⟨some 6, none, .mv (.tmp 35)⟩,
   ⟨some 7, none, .mv (.tmp 48)⟩])
 .ret)))))
theorem C130_ok : Try.f130.body.bind (comp Try.prog) = some C130 := by kernel_rfl
theorem C130_res : compRs Try.prog Try.f130.results.toList = some [.tmp 6, .tmp 7] := by kernel_rfl
theorem C130_nm : (Try.f130.name == "runtime.NumGoroutine") = false := by kernel_rfl
theorem C130_fn {a0 a1 a2 : AV} {H : Heap} {Q : AV → Heap → Prop} (h : vc Try.prog C130 (vcEnd [.tmp 6, .tmp 7] Q) H [a0, a1, a2, .any, .any, .any, .any, .any, .any, .any, .any, .any, .any, .any, .any, .any, .any, .any, .any, .any, .any, .any, .any, .any, .any, .any, .any, .any, .any, .any, .any, .any, .any, .any, .any, .any, .any, .any, .any, .any, .any, .any, .any, .any, .any, .any, .any, .any, .any]) : Runs Try.prog 130 [a0, a1, a2] H Q :=
  @fn_go Try.prog mixed 130 Try.f130 C130 [.tmp 6, .tmp 7] Try.func130 C130_ok C130_res C130_nm 49 Try.ntmps130 [a0, a1, a2] [a0, a1, a2, .any, .any, .any, .any, .any, .any, .any, .any, .any, .any, .any, .any, .any, .any, .any, .any, .any, .any, .any, .any, .any, .any, .any, .any, .any, .any, .any, .any, .any, .any, .any, .any, .any, .any, .any, .any, .any, .any, .any, .any, .any, .any, .any, .any, .any, .any] H Q h 46 (by kernel_rfl) (by kernel_rfl)

/-- impl.copyOf[impl.Policy] -/
def C131 : CC :=
 (.seq (.ops [⟨some 2, none, .mv (.const (.slice none 0 0))⟩])
 (.seq (.ops [⟨some 3, none, .lit 3 []⟩,
   ⟨some 4, none, .mv (.tmp 0)⟩,
   ⟨some 5, none, .app 3 40 (.tmp 3) (.tmp 4)⟩,
   ⟨some 2, none, .mv (.tmp 5)⟩])
 .ret))
theorem C131_ok : Try.f131.body.bind (comp Try.prog) = some C131 := by kernel_rfl
theorem C131_res : compRs Try.prog Try.f131.results.toList = some [.tmp 2] := by kernel_rfl
theorem C131_nm : (Try.f131.name == "runtime.NumGoroutine") = false := by kernel_rfl
theorem C131_fn {a0 : AV} {H : Heap} {Q : AV → Heap → Prop} (h : vc Try.prog C131 (vcEnd [.tmp 2] Q) H [a0, .any, .any, .any, .any, .any]) : Runs Try.prog 131 [a0] H Q :=
  @fn_go Try.prog mixed 131 Try.f131 C131 [.tmp 2] Try.func131 C131_ok C131_res C131_nm 6 Try.ntmps131 [a0] [a0, .any, .any, .any, .any, .any] H Q h 5 (by kernel_rfl) (by kernel_rfl)

/-- slices.Reverse[[]impl.Policy,impl.Policy] -/
def C187 : CC :=
 (.seq (.ops [⟨some 4, none, .mv (.tmp 0)⟩,
   ⟨some 5, none, .len false (.tmp 4)⟩,
   ⟨some 6, none, .bin .sub 0 (.tmp 5) (.const (.int .i64 1))⟩,
   ⟨some 2, none, .mv (.const (.int .i64 0))⟩,
   ⟨some 3, none, .mv (.tmp 6)⟩])
 (.block 0 (.loop (.seq (.seq (.ops [⟨some 7, none, .mv (.tmp 2)⟩,
      ⟨some 8, none, .mv (.tmp 3)⟩,
      ⟨some 9, none, .bin .lss 0 (.tmp 7) (.tmp 8)⟩])
    (.cond (.tmp 9) .skip
    (.exit 0)))
   (.seq (.block 1 (.draw 14 [⟨some 14, none, .mv (.tmp 0)⟩,
      ⟨some 15, none, .mv (.tmp 2)⟩,
      ⟨some 16, none, .mv (.tmp 0)⟩,
      ⟨some 17, none, .mv (.tmp 3)⟩,
      ⟨some 18, none, .mv (.tmp 0)⟩,
      ⟨some 19, none, .mv (.tmp 3)⟩,
      ⟨some 20, none, .ia 3 (.tmp 18) (.tmp 19)⟩,
      ⟨some 21, none, .load true 3 (.tmp 20)⟩,
      ⟨some 22, none, .mv (.tmp 0)⟩,
      ⟨some 23, none, .mv (.tmp 2)⟩,
      ⟨some 24, none, .ia 3 (.tmp 22) (.tmp 23)⟩,
      ⟨some 25, none, .load true 3 (.tmp 24)⟩,
      ⟨some 26, none, .ia 3 (.tmp 14) (.tmp 15)⟩,
      ⟨none, none, .store 3 (.tmp 26) (.tmp 21)⟩,
      ⟨some 27, none, .ia 3 (.tmp 16) (.tmp 17)⟩,
      ⟨none, none, .store 3 (.tmp 27) (.tmp 25)⟩]))
   (.ops [⟨some 10, none, .mv (.tmp 2)⟩,
    ⟨some 11, none, .bin .add 0 (.tmp 10) (.const (.int .i64 1))⟩,
    ⟨some 12, none, .mv (.tmp 3)⟩,
    ⟨some 13, none, .bin .sub 0 (.tmp 12) (.const (.int .i64 1))⟩,
    ⟨some 2, none, .mv (.tmp 11)⟩,
    ⟨some 3, none, .mv (.tmp 13)⟩]))))))
theorem C187_ok : Try.f187.body.bind (comp Try.prog) = some C187 := by kernel_rfl
theorem C187_res : compRs Try.prog Try.f187.results.toList = some [] := by kernel_rfl
theorem C187_nm : (Try.f187.name == "runtime.NumGoroutine") = false := by kernel_rfl
theorem C187_fn {a0 : AV} {H : Heap} {Q : AV → Heap → Prop} (h : vc Try.prog C187 (vcEnd [] Q) H [a0, .any, .any, .any, .any, .any, .any, .any, .any, .any, .any, .any, .any, .any, .any, .any, .any, .any, .any, .any, .any, .any, .any, .any, .any, .any, .any, .any]) : Runs Try.prog 187 [a0] H Q :=
  @fn_go Try.prog mixed 187 Try.f187 C187 [] Try.func187 C187_ok C187_res C187_nm 28 Try.ntmps187 [a0] [a0, .any, .any, .any, .any, .any, .any, .any, .any, .any, .any, .any, .any, .any, .any, .any, .any, .any, .any, .any, .any, .any, .any, .any, .any, .any, .any, .any] H Q h 27 (by kernel_rfl) (by kernel_rfl)

/-- slices.rotateLeft[impl.Policy] -/
def C177 : CC :=
 (.seq (.ops [⟨some 4, none, .mv (.tmp 0)⟩,
   ⟨some 5, none, .mv (.tmp 1)⟩,
   ⟨some 6, none, .slc 3 (.tmp 4) none (some (.tmp 5))⟩,
   ⟨some 7, none, .call (.func 187) [(.tmp 6)]⟩])
 (.seq (.ops [⟨some 8, none, .mv (.tmp 0)⟩,
   ⟨some 9, none, .mv (.tmp 1)⟩,
   ⟨some 10, none, .slc 3 (.tmp 8) (some (.tmp 9)) none⟩,
   ⟨some 11, none, .call (.func 187) [(.tmp 10)]⟩])
 (.ops [⟨some 12, none, .mv (.tmp 0)⟩,
  ⟨some 13, none, .call (.func 187) [(.tmp 12)]⟩])))
theorem C177_ok : Try.f177.body.bind (comp Try.prog) = some C177 := by kernel_rfl
theorem C177_res : compRs Try.prog Try.f177.results.toList = some [] := by kernel_rfl
theorem C177_nm : (Try.f177.name == "runtime.NumGoroutine") = false := by kernel_rfl
theorem C177_fn {a0 a1 : AV} {H : Heap} {Q : AV → Heap → Prop} (h : vc Try.prog C177 (vcEnd [] Q) H [a0, a1, .any, .any, .any, .any, .any, .any, .any, .any, .any, .any, .any, .any]) : Runs Try.prog 177 [a0, a1] H Q :=
  @fn_go Try.prog mixed 177 Try.f177 C177 [] Try.func177 C177_ok C177_res C177_nm 14 Try.ntmps177 [a0, a1] [a0, a1, .any, .any, .any, .any, .any, .any, .any, .any, .any, .any, .any, .any] H Q h 12 (by kernel_rfl) (by kernel_rfl)

/-- slices.rotateRight[impl.Policy] -/
def C156 : CC :=
 (.ops [⟨some 4, none, .mv (.tmp 0)⟩,
  ⟨some 5, none, .mv (.tmp 0)⟩,
  ⟨some 6, none, .len false (.tmp 5)⟩,
  ⟨some 7, none, .mv (.tmp 1)⟩,
  ⟨some 8, none, .bin .sub 0 (.tmp 6) (.tmp 7)⟩,
  ⟨some 9, none, .call (.func 177) [(.tmp 4), (.tmp 8)]⟩])
theorem C156_ok : Try.f156.body.bind (comp Try.prog) = some C156 := by kernel_rfl
theorem C156_res : compRs Try.prog Try.f156.results.toList = some [] := by kernel_rfl
theorem C156_nm : (Try.f156.name == "runtime.NumGoroutine") = false := by kernel_rfl
theorem C156_fn {a0 a1 : AV} {H : Heap} {Q : AV → Heap → Prop} (h : vc Try.prog C156 (vcEnd [] Q) H [a0, a1, .any, .any, .any, .any, .any, .any, .any, .any]) : Runs Try.prog 156 [a0, a1] H Q :=
  @fn_go Try.prog mixed 156 Try.f156 C156 [] Try.func156 C156_ok C156_res C156_nm 10 Try.ntmps156 [a0, a1] [a0, a1, .any, .any, .any, .any, .any, .any, .any, .any] H Q h 8 (by kernel_rfl) (by kernel_rfl)

/-- slices.Insert[[]impl.Policy,impl.Policy] -/
def C132 : CC :=
 (.seq (.ops [⟨some 6, none, .mv (.const (.slice none 0 0))⟩])
 (.seq (.ops [⟨some 10, none, .mv (.tmp 0)⟩,
   ⟨some 11, none, .mv (.tmp 1)⟩,
   ⟨some 12, none, .slc 3 (.tmp 10) (some (.tmp 11)) none⟩])
 (.seq (.ops [⟨some 13, none, .mv (.tmp 2)⟩,
   ⟨some 14, none, .len false (.tmp 13)⟩,
   ⟨some 7, none, .mv (.tmp 14)⟩])
 (.seq (.seq (.ops [⟨some 15, none, .mv (.tmp 7)⟩,
    ⟨some 16, none, .bin .eql 0 (.tmp 15) (.const (.int .i64 0))⟩])
  (.cond (.tmp 16) (.seq (.ops [⟨some 17, none, .mv (.tmp 0)⟩,
     ⟨some 6, none, .mv (.tmp 17)⟩])
   .ret)
  .skip))
 (.seq (.ops [⟨some 18, none, .mv (.tmp 0)⟩,
   ⟨some 19, none, .len false (.tmp 18)⟩,
   ⟨some 8, none, .mv (.tmp 19)⟩])
 (.seq (.seq (.ops [⟨some 20, none, .mv (.tmp 1)⟩,
    ⟨some 21, none, .mv (.tmp 8)⟩,
    ⟨some 22, none, .bin .eql 0 (.tmp 20) (.tmp 21)⟩])
  (.cond (.tmp 22) (.seq (.ops [⟨some 23, none, .mv (.tmp 0)⟩,
     ⟨some 24, none, .mv (.tmp 2)⟩,
     ⟨some 25, none, .app 3 40 (.tmp 23) (.tmp 24)⟩,
     ⟨some 6, none, .mv (.tmp 25)⟩])
   .ret)
  .skip))
 (.seq (.seq .dead
  (.cond (.tmp 31) (.seq .dead
   (.seq .dead
   (.seq .dead
   (.seq (.ops [⟨some 55, none, .mv (.tmp 9)⟩,
     ⟨some 6, none, .mv (.tmp 55)⟩])
   .ret))))
  .skip))
 (.seq (.ops [⟨some 56, none, .mv (.tmp 0)⟩,
   ⟨some 57, none, .mv (.tmp 8)⟩,
   ⟨some 58, none, .mv (.tmp 7)⟩,
   ⟨some 59, none, .bin .add 0 (.tmp 57) (.tmp 58)⟩,
   ⟨some 60, none, .slc 3 (.tmp 56) none (some (.tmp 59))⟩,
   ⟨some 0, none, .mv (.tmp 60)⟩])
 (.seq (.seq (.ops [⟨some 61, none, .mv (.tmp 2)⟩,
    ⟨some 62, none, .mv (.tmp 0)⟩,
    ⟨some 63, none, .mv (.tmp 1)⟩,
    ⟨some 64, none, .mv (.tmp 7)⟩,
    ⟨some 65, none, .bin .add 0 (.tmp 63) (.tmp 64)⟩,
    ⟨some 66, none, .slc 3 (.tmp 62) (some (.tmp 65)) none⟩,
    ⟨some 67, none, .call (.func 155) [(.tmp 61), (.tmp 66)]⟩,
    ⟨some 68, none, .not (.tmp 67)⟩])
  (.cond (.tmp 68) (.seq .dead
   (.seq .dead
   (.seq (.ops [⟨some 83, none, .mv (.tmp 0)⟩,
     ⟨some 6, none, .mv (.tmp 83)⟩])
   .ret)))
  .skip))
 (.seq .dead
 (.seq (.ops [⟨some 89, none, .mv (.tmp 0)⟩,
   ⟨some 90, none, .mv (.tmp 1)⟩,
   ⟨some 91, none, .slc 3 (.tmp 89) (some (.tmp 90)) none⟩,
   ⟨some 92, none, .mv (.tmp 7)⟩,
   ⟨some 93, none, .call (.func 156) [(.tmp 91), (.tmp 92)]⟩])
 (.seq (.ops [⟨some 94, none, .mv (.tmp 0)⟩,
   ⟨some 6, none, .mv (.tmp 94)⟩])
 .ret))))))))))))
theorem C132_ok : Try.f132.body.bind (comp Try.prog) = some C132 := by kernel_rfl
theorem C132_res : compRs Try.prog Try.f132.results.toList = some [.tmp 6] := by kernel_rfl
theorem C132_nm : (Try.f132.name == "runtime.NumGoroutine") = false := by kernel_rfl
theorem C132_fn {a0 a1 a2 : AV} {H : Heap} {Q : AV → Heap → Prop} (h : vc Try.prog C132 (vcEnd [.tmp 6] Q) H [a0, a1, a2, .any, .any, .any, .any, .any, .any, .any, .any, .any, .any, .any, .any, .any, .any, .any, .any, .any, .any, .any, .any, .any, .any, .any, .any, .any, .any, .any, .any, .any, .any, .any, .any, .any, .any, .any, .any, .any, .any, .any, .any, .any, .any, .any, .any, .any, .any, .any, .any, .any, .any, .any, .any, .any, .any, .any, .any, .any, .any, .any, .any, .any, .any, .any, .any, .any, .any, .any, .any, .any, .any, .any, .any, .any, .any, .any, .any, .any, .any, .any, .any, .any, .any, .any, .any, .any, .any, .any, .any, .any, .any, .any, .any]) : Runs Try.prog 132 [a0, a1, a2] H Q :=
  @fn_go Try.prog mixed 132 Try.f132 C132 [.tmp 6] Try.func132 C132_ok C132_res C132_nm 95 Try.ntmps132 [a0, a1, a2] [a0, a1, a2, .any, .any, .any, .any, .any, .any, .any, .any, .any, .any, .any, .any, .any, .any, .any, .any, .any, .any, .any, .any, .any, .any, .any, .any, .any, .any, .any, .any, .any, .any, .any, .any, .any, .any, .any, .any, .any, .any, .any, .any, .any, .any, .any, .any, .any, .any, .any, .any, .any, .any, .any, .any, .any, .any, .any, .any, .any, .any, .any, .any, .any, .any, .any, .any, .any, .any, .any, .any, .any, .any, .any, .any, .any, .any, .any, .any, .any, .any, .any, .any, .any, .any, .any, .any, .any, .any, .any, .any, .any, .any, .any, .any] H Q h 92 (by kernel_rfl) (by kernel_rfl)

/-- impl.placed[impl.Policy] -/
def C100 : CC :=
 (.seq (.ops [⟨some 4, none, .box (.tmp 1)⟩,
   ⟨some 6, none, .mv (.const (.slice none 0 0))⟩])
 (.seq (.ops [⟨some 11, none, .mv (.tmp 0)⟩,
   ⟨some 12, none, .load true 3 (.tmp 4)⟩,
   ⟨some 13, none, .mv (.tmp 2)⟩,
   ⟨some 14, none, .call (.func 130) [(.tmp 11), (.tmp 12), (.tmp 13)]⟩,
   ⟨some 10, none, .mv (.tmp 14)⟩,
   ⟨some 15, none, .ext (.tmp 10) 0⟩,
   ⟨some 16, none, .ext (.tmp 10) 1⟩,
   ⟨some 7, none, .mv (.tmp 15)⟩,
   ⟨some 8, none, .mv (.tmp 16)⟩])
 (.seq (.ops [⟨some 17, none, .mv (.tmp 0)⟩,
   ⟨some 18, none, .call (.func 131) [(.tmp 17)]⟩,
   ⟨some 9, none, .mv (.tmp 18)⟩])
 (.seq (.seq (.ops [⟨some 19, none, .mv (.tmp 8)⟩])
  (.cond (.tmp 19) (.seq (.ops [⟨some 20, none, .mv (.tmp 9)⟩,
     ⟨some 21, none, .mv (.tmp 7)⟩,
     ⟨some 22, none, .load true 3 (.tmp 4)⟩,
     ⟨some 23, none, .ia 3 (.tmp 20) (.tmp 21)⟩,
     ⟨none, none, .store 3 (.tmp 23) (.tmp 22)⟩])
   (.seq (.ops [⟨some 24, none, .mv (.tmp 9)⟩,
     ⟨some 6, none, .mv (.tmp 24)⟩])
   .ret))
  .skip))
 (.seq (.ops [⟨some 25, none, .mv (.tmp 9)⟩,
   ⟨some 26, none, .mv (.tmp 7)⟩,
   ⟨some 27, none, .load true 3 (.tmp 4)⟩,
   ⟨some 28, none, .lit 3 [(.tmp 27)]⟩,
   ⟨some 29, none, .call (.func 132) [(.tmp 25), (.tmp 26), (.tmp 28)]⟩,
   ⟨some 6, none, .mv (.tmp 29)⟩])
 .ret)))))
theorem C100_ok : Try.f100.body.bind (comp Try.prog) = some C100 := by kernel_rfl
theorem C100_res : compRs Try.prog Try.f100.results.toList = some [.tmp 6] := by kernel_rfl
theorem C100_nm : (Try.f100.name == "runtime.NumGoroutine") = false := by kernel_rfl
theorem C100_fn {a0 a1 a2 : AV} {H : Heap} {Q : AV → Heap → Prop} (h : vc Try.prog C100 (vcEnd [.tmp 6] Q) H [a0, a1, a2, .any, .any, .any, .any, .any, .any, .any, .any, .any, .any, .any, .any, .any, .any, .any, .any, .any, .any, .any, .any, .any, .any, .any, .any, .any, .any, .any]) : Runs Try.prog 100 [a0, a1, a2] H Q :=
  @fn_go Try.prog mixed 100 Try.f100 C100 [.tmp 6] Try.func100 C100_ok C100_res C100_nm 30 Try.ntmps100 [a0, a1, a2] [a0, a1, a2, .any, .any, .any, .any, .any, .any, .any, .any, .any, .any, .any, .any, .any, .any, .any, .any, .any, .any, .any, .any, .any, .any, .any, .any, .any, .any, .any] H Q h 27 (by kernel_rfl) (by kernel_rfl)

/-- impl.AddPolicy -/
def C49 : CC :=
 (.seq (.ops [⟨some 3, none, .box (.tmp 1)⟩,
   ⟨some 4, none, .mv (.const (.slice none 0 0))⟩,
   ⟨some 5, none, .mv (.const (.int .i64 0))⟩])
 (.seq (.seq (.ops [⟨some 7, none, .mv (.tmp 0)⟩,
    ⟨some 8, none, .call (.func 99) [(.tmp 7)]⟩,
    ⟨some 9, none, .not (.tmp 8)⟩])
  (.cond (.tmp 9) (.seq (.ops [⟨some 4, none, .mv (.const (.slice none 0 0))⟩,
     ⟨some 5, none, .mv (.const (.int .i64 1))⟩])
   .ret)
  .skip))
 (.seq (.ops [⟨some 10, none, .mv (.tmp 0)⟩,
   ⟨some 11, none, .load true 3 (.tmp 3)⟩,
   ⟨some 12, none, .call (.func 100) [(.tmp 10), (.tmp 11), (.func 101)]⟩,
   ⟨some 6, none, .mv (.tmp 12)⟩])
 (.seq (.seq (.ops [⟨some 13, none, .mv (.tmp 6)⟩,
    ⟨some 14, none, .len false (.tmp 13)⟩,
    ⟨some 15, none, .mv (.tmp 0)⟩,
    ⟨some 16, none, .len false (.tmp 15)⟩,
    ⟨some 17, none, .bin .eql 0 (.tmp 14) (.tmp 16)⟩,
    ⟨some 18, none, .mv (.tmp 17)⟩,
    ⟨some 19, some (18, false), .mv (.tmp 6)⟩,
    ⟨some 20, some (18, false), .call (.func 99) [(.tmp 19)]⟩,
    ⟨some 21, some (18, false), .not (.tmp 20)⟩,
    ⟨some 22, none, .pick (.tmp 18) (.const (.bool true)) (.tmp 21)⟩])
  (.cond (.tmp 22) (.seq (.ops [⟨some 4, none, .mv (.const (.slice none 0 0))⟩,
     ⟨some 5, none, .mv (.const (.int .i64 5))⟩])
   .ret)
  .skip))
 (.seq (.ops [⟨some 23, none, .mv (.tmp 6)⟩,
   ⟨some 4, none, .mv (.tmp 23)⟩,
   ⟨some 5, none, .mv (.const (.int .i64 0))⟩])
 .ret)))))
theorem C49_ok : Try.f49.body.bind (comp Try.prog) = some C49 := by kernel_rfl
theorem C49_res : compRs Try.prog Try.f49.results.toList = some [.tmp 4, .tmp 5] := by kernel_rfl
theorem C49_nm : (Try.f49.name == "runtime.NumGoroutine") = false := by kernel_rfl
theorem C49_fn {a0 a1 : AV} {H : Heap} {Q : AV → Heap → Prop} (h : vc Try.prog C49 (vcEnd [.tmp 4, .tmp 5] Q) H [a0, a1, .any, .any, .any, .any, .any, .any, .any, .any, .any, .any, .any, .any, .any, .any, .any, .any, .any, .any, .any, .any, .any, .any]) : Runs Try.prog 49 [a0, a1] H Q :=
  @fn_go Try.prog mixed 49 Try.f49 C49 [.tmp 4, .tmp 5] Try.func49 C49_ok C49_res C49_nm 24 Try.ntmps49 [a0, a1] [a0, a1, .any, .any, .any, .any, .any, .any, .any, .any, .any, .any, .any, .any, .any, .any, .any, .any, .any, .any, .any, .any, .any, .any] H Q h 22 (by kernel_rfl) (by kernel_rfl)

/-- laws.eqPolicy -/
def C102 : CC :=
 (.seq (.ops [⟨some 2, none, .box (.tmp 0)⟩,
   ⟨some 3, none, .box (.tmp 1)⟩,
   ⟨some 4, none, .mv (.const (.bool false))⟩])
 (.seq (.seq (.ops [⟨some 5, none, .fa 0 (.tmp 2)⟩,
    ⟨some 6, none, .load false 1 (.tmp 5)⟩,
    ⟨some 7, none, .fa 0 (.tmp 3)⟩,
    ⟨some 8, none, .load false 1 (.tmp 7)⟩,
    ⟨some 9, none, .bin .neq 0 (.tmp 6) (.tmp 8)⟩])
  (.cond (.tmp 9) (.seq (.ops [⟨some 4, none, .mv (.const (.bool false))⟩])
   .ret)
  .skip))
 (.seq (.seq (.ops [⟨some 10, none, .fa 1 (.tmp 2)⟩,
    ⟨some 11, none, .load false 1 (.tmp 10)⟩,
    ⟨some 12, none, .fa 1 (.tmp 3)⟩,
    ⟨some 13, none, .load false 1 (.tmp 12)⟩,
    ⟨some 14, none, .bin .neq 0 (.tmp 11) (.tmp 13)⟩])
  (.cond (.tmp 14) (.seq (.ops [⟨some 4, none, .mv (.const (.bool false))⟩])
   .ret)
  .skip))
 (.seq (.seq (.ops [⟨some 15, none, .fa 2 (.tmp 2)⟩,
    ⟨some 16, none, .load false 1 (.tmp 15)⟩,
    ⟨some 17, none, .fa 2 (.tmp 3)⟩,
    ⟨some 18, none, .load false 1 (.tmp 17)⟩,
    ⟨some 19, none, .bin .neq 0 (.tmp 16) (.tmp 18)⟩])
  (.cond (.tmp 19) (.seq (.ops [⟨some 4, none, .mv (.const (.bool false))⟩])
   .ret)
  .skip))
 (.seq (.ops [⟨some 4, none, .mv (.const (.bool true))⟩])
 .ret)))))
theorem C102_ok : Try.f102.body.bind (comp Try.prog) = some C102 := by kernel_rfl
theorem C102_res : compRs Try.prog Try.f102.results.toList = some [.tmp 4] := by kernel_rfl
theorem C102_nm : (Try.f102.name == "runtime.NumGoroutine") = false := by kernel_rfl
theorem C102_fn {a0 a1 : AV} {H : Heap} {Q : AV → Heap → Prop} (h : vc Try.prog C102 (vcEnd [.tmp 4] Q) H [a0, a1, .any, .any, .any, .any, .any, .any, .any, .any, .any, .any, .any, .any, .any, .any, .any, .any, .any, .any]) : Runs Try.prog 102 [a0, a1] H Q :=
  @fn_go Try.prog mixed 102 Try.f102 C102 [.tmp 4] Try.func102 C102_ok C102_res C102_nm 20 Try.ntmps102 [a0, a1] [a0, a1, .any, .any, .any, .any, .any, .any, .any, .any, .any, .any, .any, .any, .any, .any, .any, .any, .any, .any] H Q h 18 (by kernel_rfl) (by kernel_rfl)

/-- laws.eqPolicyS -/
def C50 : CC :=
 (.seq (.ops [⟨some 4, none, .mv (.const (.bool false))⟩])
 (.seq (.seq (.ops [⟨some 6, none, .mv (.tmp 0)⟩,
    ⟨some 7, none, .len false (.tmp 6)⟩,
    ⟨some 8, none, .mv (.tmp 1)⟩,
    ⟨some 9, none, .len false (.tmp 8)⟩,
    ⟨some 10, none, .bin .neq 0 (.tmp 7) (.tmp 9)⟩])
  (.cond (.tmp 10) (.seq (.ops [⟨some 4, none, .mv (.const (.bool false))⟩])
   .ret)
  .skip))
 (.seq (.seq (.ops [⟨some 5, none, .mv (.const (.int .i64 0))⟩])
  (.block 0 (.loop (.seq (.seq (.ops [⟨some 11, none, .mv (.tmp 5)⟩,
       ⟨some 12, none, .mv (.tmp 0)⟩,
       ⟨some 13, none, .len false (.tmp 12)⟩,
       ⟨some 14, none, .bin .lss 0 (.tmp 11) (.tmp 13)⟩])
     (.cond (.tmp 14) .skip
     (.exit 0)))
    (.seq (.block 1 (.seq (.draw 10 [⟨some 17, none, .mv (.tmp 0)⟩,
        ⟨some 18, none, .mv (.tmp 5)⟩,
        ⟨some 19, none, .ia 3 (.tmp 17) (.tmp 18)⟩,
        ⟨some 20, none, .load true 3 (.tmp 19)⟩,
        ⟨some 21, none, .mv (.tmp 1)⟩,
        ⟨some 22, none, .mv (.tmp 5)⟩,
        ⟨some 23, none, .ia 3 (.tmp 21) (.tmp 22)⟩,
        ⟨some 24, none, .load true 3 (.tmp 23)⟩,
        ⟨some 25, none, .call (.func 102) [(.tmp 20), (.tmp 24)]⟩,
        ⟨some 26, none, .not (.tmp 25)⟩])
      (.cond (.tmp 26) (.seq (.ops [⟨some 4, none, .mv (.const (.bool false))⟩])
       .ret)
      .skip)))
    (.ops [⟨some 15, none, .mv (.tmp 5)⟩,
     ⟨some 16, none, .bin .add 0 (.tmp 15) (.const (.int .i64 1))⟩,
     ⟨some 5, none, .mv (.tmp 16)⟩]))))))
 (.seq (.ops [⟨some 4, none, .mv (.const (.bool true))⟩])
 .ret))))
theorem C50_ok : Try.f50.body.bind (comp Try.prog) = some C50 := by kernel_rfl
theorem C50_res : compRs Try.prog Try.f50.results.toList = some [.tmp 4] := by kernel_rfl
theorem C50_nm : (Try.f50.name == "runtime.NumGoroutine") = false := by kernel_rfl
theorem C50_fn {a0 a1 : AV} {H : Heap} {Q : AV → Heap → Prop} (h : vc Try.prog C50 (vcEnd [.tmp 4] Q) H [a0, a1, .any, .any, .any, .any, .any, .any, .any, .any, .any, .any, .any, .any, .any, .any, .any, .any, .any, .any, .any, .any, .any, .any, .any, .any, .any]) : Runs Try.prog 50 [a0, a1] H Q :=
  @fn_go Try.prog mixed 50 Try.f50 C50 [.tmp 4] Try.func50 C50_ok C50_res C50_nm 27 Try.ntmps50 [a0, a1] [a0, a1, .any, .any, .any, .any, .any, .any, .any, .any, .any, .any, .any, .any, .any, .any, .any, .any, .any, .any, .any, .any, .any, .any, .any, .any, .any] H Q h 25 (by kernel_rfl) (by kernel_rfl)

/-- laws.markPolicyS -/
def C51 : CC :=
 (.seq (.ops [⟨some 4, none, .mv (.const (.int .i64 0))⟩])
 (.seq (.seq (.ops [⟨some 5, none, .mv (.const (.int .i64 0))⟩])
  (.block 0 (.loop (.seq (.seq (.ops [⟨some 6, none, .mv (.tmp 5)⟩,
       ⟨some 7, none, .mv (.tmp 0)⟩,
       ⟨some 8, none, .len false (.tmp 7)⟩,
       ⟨some 9, none, .bin .lss 0 (.tmp 6) (.tmp 8)⟩])
     (.cond (.tmp 9) .skip
     (.exit 0)))
    (.seq (.block 1 (.seq (.ops [⟨some 12, none, .mv (.tmp 0)⟩,
        ⟨some 13, none, .mv (.tmp 5)⟩,
        ⟨some 14, none, .mv (.tmp 1)⟩,
        ⟨some 15, none, .call (.func 91) [(.tmp 14)]⟩,
        ⟨some 16, none, .ia 3 (.tmp 12) (.tmp 13)⟩,
        ⟨some 17, none, .fa 0 (.tmp 16)⟩,
        ⟨none, none, .store 1 (.tmp 17) (.tmp 15)⟩])
      (.seq (.ops [⟨some 18, none, .mv (.tmp 1)⟩,
        ⟨some 19, none, .bin .add 0 (.tmp 18) (.const (.int .i64 1))⟩,
        ⟨some 1, none, .mv (.tmp 19)⟩])
      (.seq (.ops [⟨some 20, none, .mv (.tmp 0)⟩,
        ⟨some 21, none, .mv (.tmp 5)⟩,
        ⟨some 22, none, .mv (.tmp 1)⟩,
        ⟨some 23, none, .call (.func 91) [(.tmp 22)]⟩,
        ⟨some 24, none, .ia 3 (.tmp 20) (.tmp 21)⟩,
        ⟨some 25, none, .fa 1 (.tmp 24)⟩,
        ⟨none, none, .store 1 (.tmp 25) (.tmp 23)⟩])
      (.seq (.ops [⟨some 26, none, .mv (.tmp 1)⟩,
        ⟨some 27, none, .bin .add 0 (.tmp 26) (.const (.int .i64 1))⟩,
        ⟨some 1, none, .mv (.tmp 27)⟩])
      (.seq (.ops [⟨some 28, none, .mv (.tmp 0)⟩,
        ⟨some 29, none, .mv (.tmp 5)⟩,
        ⟨some 30, none, .mv (.tmp 1)⟩,
        ⟨some 31, none, .ia 3 (.tmp 28) (.tmp 29)⟩,
        ⟨some 32, none, .fa 2 (.tmp 31)⟩,
        ⟨none, none, .store 1 (.tmp 32) (.tmp 30)⟩])
      (.ops [⟨some 33, none, .mv (.tmp 1)⟩,
       ⟨some 34, none, .bin .add 0 (.tmp 33) (.const (.int .i64 1))⟩,
       ⟨some 1, none, .mv (.tmp 34)⟩])))))))
    (.ops [⟨some 10, none, .mv (.tmp 5)⟩,
     ⟨some 11, none, .bin .add 0 (.tmp 10) (.const (.int .i64 1))⟩,
     ⟨some 5, none, .mv (.tmp 11)⟩]))))))
 (.seq (.ops [⟨some 35, none, .mv (.tmp 1)⟩,
   ⟨some 4, none, .mv (.tmp 35)⟩])
 .ret)))
theorem C51_ok : Try.f51.body.bind (comp Try.prog) = some C51 := by kernel_rfl
theorem C51_res : compRs Try.prog Try.f51.results.toList = some [.tmp 4] := by kernel_rfl
theorem C51_nm : (Try.f51.name == "runtime.NumGoroutine") = false := by kernel_rfl
theorem C51_fn {a0 a1 : AV} {H : Heap} {Q : AV → Heap → Prop} (h : vc Try.prog C51 (vcEnd [.tmp 4] Q) H [a0, a1, .any, .any, .any, .any, .any, .any, .any, .any, .any, .any, .any, .any, .any, .any, .any, .any, .any, .any, .any, .any, .any, .any, .any, .any, .any, .any, .any, .any, .any, .any, .any, .any, .any, .any]) : Runs Try.prog 51 [a0, a1] H Q :=
  @fn_go Try.prog mixed 51 Try.f51 C51 [.tmp 4] Try.func51 C51_ok C51_res C51_nm 36 Try.ntmps51 [a0, a1] [a0, a1, .any, .any, .any, .any, .any, .any, .any, .any, .any, .any, .any, .any, .any, .any, .any, .any, .any, .any, .any, .any, .any, .any, .any, .any, .any, .any, .any, .any, .any, .any, .any, .any, .any, .any] H Q h 34 (by kernel_rfl) (by kernel_rfl)

/-- laws.heldPolicyS -/
def C52 : CC :=
 (.seq (.ops [⟨some 4, none, .mv (.const (.int .i64 0))⟩])
 (.seq (.seq (.ops [⟨some 5, none, .mv (.const (.int .i64 0))⟩])
  (.block 0 (.loop (.seq (.seq (.ops [⟨some 6, none, .mv (.tmp 5)⟩,
       ⟨some 7, none, .mv (.tmp 0)⟩,
       ⟨some 8, none, .len false (.tmp 7)⟩,
       ⟨some 9, none, .bin .lss 0 (.tmp 6) (.tmp 8)⟩])
     (.cond (.tmp 9) .skip
     (.exit 0)))
    (.seq (.block 1 (.seq (.seq (.draw 8 [⟨some 12, none, .mv (.tmp 0)⟩,
         ⟨some 13, none, .mv (.tmp 5)⟩,
         ⟨some 14, none, .ia 3 (.tmp 12) (.tmp 13)⟩,
         ⟨some 15, none, .fa 0 (.tmp 14)⟩,
         ⟨some 16, none, .load false 1 (.tmp 15)⟩,
         ⟨some 17, none, .mv (.tmp 1)⟩,
         ⟨some 18, none, .call (.func 91) [(.tmp 17)]⟩,
         ⟨some 19, none, .bin .neq 0 (.tmp 16) (.tmp 18)⟩])
       (.cond (.tmp 19) (.seq (.ops [⟨some 4, none, .mv (.const (.int .i64 (-1)))⟩])
        .ret)
       .skip))
      (.seq (.ops [⟨some 20, none, .mv (.tmp 1)⟩,
        ⟨some 21, none, .bin .add 0 (.tmp 20) (.const (.int .i64 1))⟩,
        ⟨some 1, none, .mv (.tmp 21)⟩])
      (.seq (.seq (.draw 8 [⟨some 22, none, .mv (.tmp 0)⟩,
         ⟨some 23, none, .mv (.tmp 5)⟩,
         ⟨some 24, none, .ia 3 (.tmp 22) (.tmp 23)⟩,
         ⟨some 25, none, .fa 1 (.tmp 24)⟩,
         ⟨some 26, none, .load false 1 (.tmp 25)⟩,
         ⟨some 27, none, .mv (.tmp 1)⟩,
         ⟨some 28, none, .call (.func 91) [(.tmp 27)]⟩,
         ⟨some 29, none, .bin .neq 0 (.tmp 26) (.tmp 28)⟩])
       (.cond (.tmp 29) (.seq (.ops [⟨some 4, none, .mv (.const (.int .i64 (-1)))⟩])
        .ret)
       .skip))
      (.seq (.ops [⟨some 30, none, .mv (.tmp 1)⟩,
        ⟨some 31, none, .bin .add 0 (.tmp 30) (.const (.int .i64 1))⟩,
        ⟨some 1, none, .mv (.tmp 31)⟩])
      (.seq (.seq (.ops [⟨some 32, none, .mv (.tmp 0)⟩,
         ⟨some 33, none, .mv (.tmp 5)⟩,
         ⟨some 34, none, .ia 3 (.tmp 32) (.tmp 33)⟩,
         ⟨some 35, none, .fa 2 (.tmp 34)⟩,
         ⟨some 36, none, .load false 1 (.tmp 35)⟩,
         ⟨some 37, none, .mv (.tmp 1)⟩,
         ⟨some 38, none, .bin .neq 0 (.tmp 36) (.tmp 37)⟩])
       (.cond (.tmp 38) (.seq (.ops [⟨some 4, none, .mv (.const (.int .i64 (-1)))⟩])
        .ret)
       .skip))
      (.ops [⟨some 39, none, .mv (.tmp 1)⟩,
       ⟨some 40, none, .bin .add 0 (.tmp 39) (.const (.int .i64 1))⟩,
       ⟨some 1, none, .mv (.tmp 40)⟩])))))))
    (.ops [⟨some 10, none, .mv (.tmp 5)⟩,
     ⟨some 11, none, .bin .add 0 (.tmp 10) (.const (.int .i64 1))⟩,
     ⟨some 5, none, .mv (.tmp 11)⟩]))))))
 (.seq (.ops [⟨some 41, none, .mv (.tmp 1)⟩,
   ⟨some 4, none, .mv (.tmp 41)⟩])
 .ret)))
theorem C52_ok : Try.f52.body.bind (comp Try.prog) = some C52 := by kernel_rfl
theorem C52_res : compRs Try.prog Try.f52.results.toList = some [.tmp 4] := by kernel_rfl
theorem C52_nm : (Try.f52.name == "runtime.NumGoroutine") = false := by kernel_rfl
theorem C52_fn {a0 a1 : AV} {H : Heap} {Q : AV → Heap → Prop} (h : vc Try.prog C52 (vcEnd [.tmp 4] Q) H [a0, a1, .any, .any, .any, .any, .any, .any, .any, .any, .any, .any, .any, .any, .any, .any, .any, .any, .any, .any, .any, .any, .any, .any, .any, .any, .any, .any, .any, .any, .any, .any, .any, .any, .any, .any, .any, .any, .any, .any, .any, .any]) : Runs Try.prog 52 [a0, a1] H Q :=
  @fn_go Try.prog mixed 52 Try.f52 C52 [.tmp 4] Try.func52 C52_ok C52_res C52_nm 42 Try.ntmps52 [a0, a1] [a0, a1, .any, .any, .any, .any, .any, .any, .any, .any, .any, .any, .any, .any, .any, .any, .any, .any, .any, .any, .any, .any, .any, .any, .any, .any, .any, .any, .any, .any, .any, .any, .any, .any, .any, .any, .any, .any, .any, .any, .any, .any] H Q h 40 (by kernel_rfl) (by kernel_rfl)

/-- laws.FnExactAddPolicy -/
def C12 : CC :=
 (.seq (.ops [⟨some 3, none, .box (.tmp 1)⟩,
   ⟨some 4, none, .mv (.const (.bool false))⟩])
 (.seq (.ops [⟨some 5, none, .mv (.const (.int .i64 1048576))⟩])
 (.seq (.ops [⟨some 16, none, .mv (.tmp 0)⟩,
   ⟨some 17, none, .mv (.tmp 5)⟩,
   ⟨some 18, none, .call (.func 44) [(.tmp 16), (.tmp 17)]⟩,
   ⟨some 5, none, .mv (.tmp 18)⟩])
 (.seq (.seq (.ops [⟨some 19, none, .mv (.tmp 5)⟩,
    ⟨some 20, none, .bin .lss 0 (.tmp 19) (.const (.int .i64 0))⟩])
  (.cond (.tmp 20) (.seq (.ops [⟨some 4, none, .mv (.const (.bool true))⟩])
   .ret)
  .skip))
 (.seq (.ops [⟨some 21, none, .load true 3 (.tmp 3)⟩,
   ⟨some 22, none, .mv (.tmp 5)⟩,
   ⟨some 23, none, .call (.func 45) [(.tmp 21), (.tmp 22)]⟩,
   ⟨some 5, none, .mv (.tmp 23)⟩])
 (.seq (.seq (.ops [⟨some 24, none, .mv (.tmp 5)⟩,
    ⟨some 25, none, .bin .lss 0 (.tmp 24) (.const (.int .i64 0))⟩])
  (.cond (.tmp 25) (.seq (.ops [⟨some 4, none, .mv (.const (.bool true))⟩])
   .ret)
  .skip))
 (.seq (.draw 9 [⟨some 27, none, .mv (.tmp 0)⟩,
   ⟨some 28, none, .call (.func 47) [(.tmp 27)]⟩,
   ⟨some 29, none, .load true 3 (.tmp 3)⟩,
   ⟨some 30, none, .call (.func 48) [(.tmp 29)]⟩,
   ⟨some 31, none, .call (.func 46) [(.tmp 28), (.tmp 30)]⟩,
   ⟨some 26, none, .mv (.tmp 31)⟩,
   ⟨some 32, none, .ext (.tmp 26) 0⟩,
   ⟨some 33, none, .ext (.tmp 26) 1⟩,
   ⟨some 6, none, .mv (.tmp 32)⟩,
   ⟨some 7, none, .mv (.tmp 33)⟩])
 (.seq (.ops [⟨some 34, none, .mv (.tmp 0)⟩,
   ⟨some 35, none, .call (.func 47) [(.tmp 34)]⟩,
   ⟨some 8, none, .mv (.tmp 35)⟩])
 (.seq (.ops [⟨some 37, none, .mv (.tmp 8)⟩,
   ⟨some 38, none, .load true 3 (.tmp 3)⟩,
   ⟨some 39, none, .call (.func 48) [(.tmp 38)]⟩,
   ⟨some 40, none, .call (.func 49) [(.tmp 37), (.tmp 39)]⟩,
   ⟨some 36, none, .mv (.tmp 40)⟩,
   ⟨some 41, none, .ext (.tmp 36) 0⟩,
   ⟨some 42, none, .ext (.tmp 36) 1⟩,
   ⟨some 9, none, .mv (.tmp 41)⟩,
   ⟨some 10, none, .mv (.tmp 42)⟩])
 (.seq (.seq (.ops [⟨some 43, none, .mv (.tmp 9)⟩,
    ⟨some 44, none, .mv (.tmp 6)⟩,
    ⟨some 45, none, .call (.func 50) [(.tmp 43), (.tmp 44)]⟩,
    ⟨some 46, none, .not (.tmp 45)⟩,
    ⟨some 47, none, .mv (.tmp 46)⟩,
    ⟨some 48, some (47, false), .mv (.tmp 10)⟩,
    ⟨some 49, some (47, false), .mv (.tmp 7)⟩,
    ⟨some 50, some (47, false), .bin .neq 0 (.tmp 48) (.tmp 49)⟩,
    ⟨some 51, none, .pick (.tmp 47) (.const (.bool true)) (.tmp 50)⟩])
  (.cond (.tmp 51) (.seq (.ops [⟨some 4, none, .mv (.const (.bool false))⟩])
   .ret)
  .skip))
 (.seq (.seq (.ops [⟨some 52, none, .mv (.tmp 8)⟩,
    ⟨some 53, none, .mv (.tmp 0)⟩,
    ⟨some 54, none, .call (.func 47) [(.tmp 53)]⟩,
    ⟨some 55, none, .call (.func 50) [(.tmp 52), (.tmp 54)]⟩,
    ⟨some 56, none, .not (.tmp 55)⟩])
  (.cond (.tmp 56) (.seq (.ops [⟨some 4, none, .mv (.const (.bool false))⟩])
   .ret)
  .skip))
 (.seq (.ops [⟨some 11, none, .mv (.const (.int .i64 1))⟩])
 (.seq (.ops [⟨some 57, none, .mv (.tmp 8)⟩,
   ⟨some 58, none, .mv (.tmp 11)⟩,
   ⟨some 59, none, .call (.func 51) [(.tmp 57), (.tmp 58)]⟩,
   ⟨some 11, none, .mv (.tmp 59)⟩])
 (.seq (.seq (.ops [⟨some 60, none, .mv (.tmp 11)⟩,
    ⟨some 61, none, .bin .lss 0 (.tmp 60) (.const (.int .i64 0))⟩,
    ⟨some 62, none, .mv (.tmp 61)⟩,
    ⟨some 63, some (62, false), .mv (.tmp 9)⟩,
    ⟨some 64, some (62, false), .mv (.tmp 6)⟩,
    ⟨some 65, some (62, false), .call (.func 50) [(.tmp 63), (.tmp 64)]⟩,
    ⟨some 66, some (62, false), .not (.tmp 65)⟩,
    ⟨some 67, none, .pick (.tmp 62) (.const (.bool true)) (.tmp 66)⟩,
    ⟨some 68, none, .mv (.tmp 67)⟩,
    ⟨some 69, some (68, false), .mv (.tmp 10)⟩,
    ⟨some 70, some (68, false), .mv (.tmp 7)⟩,
    ⟨some 71, some (68, false), .bin .neq 0 (.tmp 69) (.tmp 70)⟩,
    ⟨some 72, none, .pick (.tmp 68) (.const (.bool true)) (.tmp 71)⟩])
  (.cond (.tmp 72) (.seq (.ops [⟨some 4, none, .mv (.const (.bool false))⟩])
   .ret)
  .skip))
 (.seq (.ops [⟨some 12, none, .mv (.const (.int .i64 1))⟩])
 (.seq (.ops [⟨some 73, none, .mv (.tmp 9)⟩,
   ⟨some 74, none, .mv (.tmp 12)⟩,
   ⟨some 75, none, .call (.func 51) [(.tmp 73), (.tmp 74)]⟩,
   ⟨some 12, none, .mv (.tmp 75)⟩])
 (.seq (.ops [⟨some 13, none, .mv (.const (.int .i64 1))⟩])
 (.seq (.ops [⟨some 76, none, .mv (.tmp 9)⟩,
   ⟨some 77, none, .mv (.tmp 13)⟩,
   ⟨some 78, none, .call (.func 52) [(.tmp 76), (.tmp 77)]⟩,
   ⟨some 13, none, .mv (.tmp 78)⟩])
 (.seq (.seq (.ops [⟨some 79, none, .mv (.tmp 13)⟩,
    ⟨some 80, none, .bin .lss 0 (.tmp 79) (.const (.int .i64 0))⟩])
  (.cond (.tmp 80) (.seq (.ops [⟨some 4, none, .mv (.const (.bool false))⟩])
   .ret)
  .skip))
 (.seq (.seq (.ops [⟨some 81, none, .mv (.tmp 13)⟩,
    ⟨some 82, none, .mv (.tmp 12)⟩,
    ⟨some 83, none, .bin .neq 0 (.tmp 81) (.tmp 82)⟩])
  (.cond (.tmp 83) (.seq (.ops [⟨some 4, none, .mv (.const (.bool false))⟩])
   .ret)
  .skip))
 (.seq (.draw 9 [⟨some 85, none, .mv (.tmp 0)⟩,
   ⟨some 86, none, .call (.func 47) [(.tmp 85)]⟩,
   ⟨some 87, none, .load true 3 (.tmp 3)⟩,
   ⟨some 88, none, .call (.func 48) [(.tmp 87)]⟩,
   ⟨some 89, none, .call (.func 49) [(.tmp 86), (.tmp 88)]⟩,
   ⟨some 84, none, .mv (.tmp 89)⟩,
   ⟨some 90, none, .ext (.tmp 84) 0⟩,
   ⟨some 91, none, .ext (.tmp 84) 1⟩,
   ⟨some 14, none, .mv (.tmp 90)⟩,
   ⟨some 15, none, .mv (.tmp 91)⟩])
 (.seq (.seq (.ops [⟨some 92, none, .mv (.tmp 14)⟩,
    ⟨some 93, none, .mv (.tmp 6)⟩,
    ⟨some 94, none, .call (.func 50) [(.tmp 92), (.tmp 93)]⟩,
    ⟨some 95, none, .not (.tmp 94)⟩,
    ⟨some 96, none, .mv (.tmp 95)⟩,
    ⟨some 97, some (96, false), .mv (.tmp 15)⟩,
    ⟨some 98, some (96, false), .mv (.tmp 7)⟩,
    ⟨some 99, some (96, false), .bin .neq 0 (.tmp 97) (.tmp 98)⟩,
    ⟨some 100, none, .pick (.tmp 96) (.const (.bool true)) (.tmp 99)⟩])
  (.cond (.tmp 100) (.seq (.ops [⟨some 4, none, .mv (.const (.bool false))⟩])
   .ret)
  .skip))
 (.seq (.ops [⟨some 13, none, .mv (.const (.int .i64 1))⟩])
 (.seq (.ops [⟨some 101, none, .mv (.tmp 9)⟩,
   ⟨some 102, none, .mv (.tmp 13)⟩,
   ⟨some 103, none, .call (.func 52) [(.tmp 101), (.tmp 102)]⟩,
   ⟨some 13, none, .mv (.tmp 103)⟩])
 (.seq (.seq (.ops [⟨some 104, none, .mv (.tmp 13)⟩,
    ⟨some 105, none, .bin .lss 0 (.tmp 104) (.const (.int .i64 0))⟩])
  (.cond (.tmp 105) (.seq (.ops [⟨some 4, none, .mv (.const (.bool false))⟩])
   .ret)
  .skip))
 (.seq (.seq (.ops [⟨some 106, none, .mv (.tmp 13)⟩,
    ⟨some 107, none, .mv (.tmp 12)⟩,
    ⟨some 108, none, .bin .neq 0 (.tmp 106) (.tmp 107)⟩])
  (.cond (.tmp 108) (.seq (.ops [⟨some 4, none, .mv (.const (.bool false))⟩])
   .ret)
  .skip))
 (.seq (.ops [⟨some 4, none, .mv (.const (.bool true))⟩])
 .ret)))))))))))))))))))))))))))
theorem C12_ok : Try.f12.body.bind (comp Try.prog) = some C12 := by kernel_rfl
theorem C12_res : compRs Try.prog Try.f12.results.toList = some [.tmp 4] := by kernel_rfl
theorem C12_nm : (Try.f12.name == "runtime.NumGoroutine") = false := by kernel_rfl
theorem C12_fn {a0 a1 : AV} {H : Heap} {Q : AV → Heap → Prop} (h : vc Try.prog C12 (vcEnd [.tmp 4] Q) H [a0, a1, .any, .any, .any, .any, .any, .any, .any, .any, .any, .any, .any, .any, .any, .any, .any, .any, .any, .any, .any, .any, .any, .any, .any, .any, .any, .any, .any, .any, .any, .any, .any, .any, .any, .any, .any, .any, .any, .any, .any, .any, .any, .any, .any, .any, .any, .any, .any, .any, .any, .any, .any, .any, .any, .any, .any, .any, .any, .any, .any, .any, .any, .any, .any, .any, .any, .any, .any, .any, .any, .any, .any, .any, .any, .any, .any, .any, .any, .any, .any, .any, .any, .any, .any, .any, .any, .any, .any, .any, .any, .any, .any, .any, .any, .any, .any, .any, .any, .any, .any, .any, .any, .any, .any, .any, .any, .any, .any]) : Runs Try.prog 12 [a0, a1] H Q :=
  @fn_go Try.prog mixed 12 Try.f12 C12 [.tmp 4] Try.func12 C12_ok C12_res C12_nm 109 Try.ntmps12 [a0, a1] [a0, a1, .any, .any, .any, .any, .any, .any, .any, .any, .any, .any, .any, .any, .any, .any, .any, .any, .any, .any, .any, .any, .any, .any, .any, .any, .any, .any, .any, .any, .any, .any, .any, .any, .any, .any, .any, .any, .any, .any, .any, .any, .any, .any, .any, .any, .any, .any, .any, .any, .any, .any, .any, .any, .any, .any, .any, .any, .any, .any, .any, .any, .any, .any, .any, .any, .any, .any, .any, .any, .any, .any, .any, .any, .any, .any, .any, .any, .any, .any, .any, .any, .any, .any, .any, .any, .any, .any, .any, .any, .any, .any, .any, .any, .any, .any, .any, .any, .any, .any, .any, .any, .any, .any, .any, .any, .any, .any, .any] H Q h 107 (by kernel_rfl) (by kernel_rfl)

/-- laws.szClaim -/
def C54 : CC :=
 (.seq (.ops [⟨some 2, none, .box (.tmp 0)⟩,
   ⟨some 4, none, .mv (.const (.int .i64 0))⟩])
 (.seq (.ops [⟨some 5, none, .mv (.tmp 1)⟩,
   ⟨some 6, none, .fa 0 (.tmp 2)⟩,
   ⟨some 7, none, .load false 1 (.tmp 6)⟩,
   ⟨some 8, none, .len true (.tmp 7)⟩,
   ⟨some 9, none, .bin .sub 0 (.tmp 5) (.tmp 8)⟩,
   ⟨some 1, none, .mv (.tmp 9)⟩])
 (.seq (.seq (.ops [⟨some 10, none, .mv (.tmp 1)⟩,
    ⟨some 11, none, .bin .lss 0 (.tmp 10) (.const (.int .i64 0))⟩])
  (.cond (.tmp 11) (.seq (.ops [⟨some 4, none, .mv (.const (.int .i64 (-1)))⟩])
   .ret)
  .skip))
 (.seq (.ops [⟨some 12, none, .mv (.tmp 1)⟩,
   ⟨some 4, none, .mv (.tmp 12)⟩])
 .ret))))
theorem C54_ok : Try.f54.body.bind (comp Try.prog) = some C54 := by kernel_rfl
theorem C54_res : compRs Try.prog Try.f54.results.toList = some [.tmp 4] := by kernel_rfl
theorem C54_nm : (Try.f54.name == "runtime.NumGoroutine") = false := by kernel_rfl
theorem C54_fn {a0 a1 : AV} {H : Heap} {Q : AV → Heap → Prop} (h : vc Try.prog C54 (vcEnd [.tmp 4] Q) H [a0, a1, .any, .any, .any, .any, .any, .any, .any, .any, .any, .any, .any]) : Runs Try.prog 54 [a0, a1] H Q :=
  @fn_go Try.prog mixed 54 Try.f54 C54 [.tmp 4] Try.func54 C54_ok C54_res C54_nm 13 Try.ntmps54 [a0, a1] [a0, a1, .any, .any, .any, .any, .any, .any, .any, .any, .any, .any, .any] H Q h 11 (by kernel_rfl) (by kernel_rfl)

/-- laws.szClaimS -/
def C53 : CC :=
 (.seq (.ops [⟨some 4, none, .mv (.const (.int .i64 0))⟩])
 (.seq (.ops [⟨some 6, none, .mv (.tmp 1)⟩,
   ⟨some 7, none, .mv (.tmp 0)⟩,
   ⟨some 8, none, .len false (.tmp 7)⟩,
   ⟨some 9, none, .bin .sub 0 (.tmp 6) (.tmp 8)⟩,
   ⟨some 1, none, .mv (.tmp 9)⟩])
 (.seq (.seq (.ops [⟨some 10, none, .mv (.tmp 1)⟩,
    ⟨some 11, none, .bin .lss 0 (.tmp 10) (.const (.int .i64 0))⟩])
  (.cond (.tmp 11) (.seq (.ops [⟨some 4, none, .mv (.const (.int .i64 (-1)))⟩])
   .ret)
  .skip))
 (.seq (.seq (.ops [⟨some 5, none, .mv (.const (.int .i64 0))⟩])
  (.block 0 (.loop (.seq (.seq (.ops [⟨some 12, none, .mv (.tmp 5)⟩,
       ⟨some 13, none, .mv (.tmp 0)⟩,
       ⟨some 14, none, .len false (.tmp 13)⟩,
       ⟨some 15, none, .bin .lss 0 (.tmp 12) (.tmp 14)⟩])
     (.cond (.tmp 15) .skip
     (.exit 0)))
    (.seq (.block 1 (.seq (.ops [⟨some 18, none, .mv (.tmp 0)⟩,
        ⟨some 19, none, .mv (.tmp 5)⟩,
        ⟨some 20, none, .ia 5 (.tmp 18) (.tmp 19)⟩,
        ⟨some 21, none, .load true 5 (.tmp 20)⟩,
        ⟨some 22, none, .mv (.tmp 1)⟩,
        ⟨some 23, none, .call (.func 54) [(.tmp 21), (.tmp 22)]⟩,
        ⟨some 1, none, .mv (.tmp 23)⟩])
      (.seq (.ops [⟨some 24, none, .mv (.tmp 1)⟩,
        ⟨some 25, none, .bin .lss 0 (.tmp 24) (.const (.int .i64 0))⟩])
      (.cond (.tmp 25) (.seq (.ops [⟨some 4, none, .mv (.const (.int .i64 (-1)))⟩])
       .ret)
      .skip))))
    (.ops [⟨some 16, none, .mv (.tmp 5)⟩,
     ⟨some 17, none, .bin .add 0 (.tmp 16) (.const (.int .i64 1))⟩,
     ⟨some 5, none, .mv (.tmp 17)⟩]))))))
 (.seq (.ops [⟨some 26, none, .mv (.tmp 1)⟩,
   ⟨some 4, none, .mv (.tmp 26)⟩])
 .ret)))))
theorem C53_ok : Try.f53.body.bind (comp Try.prog) = some C53 := by kernel_rfl
theorem C53_res : compRs Try.prog Try.f53.results.toList = some [.tmp 4] := by kernel_rfl
theorem C53_nm : (Try.f53.name == "runtime.NumGoroutine") = false := by kernel_rfl
theorem C53_fn {a0 a1 : AV} {H : Heap} {Q : AV → Heap → Prop} (h : vc Try.prog C53 (vcEnd [.tmp 4] Q) H [a0, a1, .any, .any, .any, .any, .any, .any, .any, .any, .any, .any, .any, .any, .any, .any, .any, .any, .any, .any, .any, .any, .any, .any, .any, .any, .any]) : Runs Try.prog 53 [a0, a1] H Q :=
  @fn_go Try.prog mixed 53 Try.f53 C53 [.tmp 4] Try.func53 C53_ok C53_res C53_nm 27 Try.ntmps53 [a0, a1] [a0, a1, .any, .any, .any, .any, .any, .any, .any, .any, .any, .any, .any, .any, .any, .any, .any, .any, .any, .any, .any, .any, .any, .any, .any, .any, .any] H Q h 25 (by kernel_rfl) (by kernel_rfl)

/-- spec.AreClaims -/
def C103 : CC :=
 (.seq (.ops [⟨some 2, none, .mv (.const (.bool false))⟩])
 (.seq (.seq (.ops [⟨some 3, none, .mv (.const (.int .i64 0))⟩])
  (.block 0 (.loop (.seq (.seq (.ops [⟨some 5, none, .mv (.tmp 3)⟩,
       ⟨some 6, none, .mv (.tmp 0)⟩,
       ⟨some 7, none, .len false (.tmp 6)⟩,
       ⟨some 8, none, .bin .lss 0 (.tmp 5) (.tmp 7)⟩])
     (.cond (.tmp 8) .skip
     (.exit 0)))
    (.seq (.block 1 (.seq (.ops [⟨some 11, none, .mv (.tmp 0)⟩,
        ⟨some 12, none, .mv (.tmp 3)⟩,
        ⟨some 13, none, .ia 5 (.tmp 11) (.tmp 12)⟩,
        ⟨some 14, none, .load true 5 (.tmp 13)⟩,
        ⟨some 4, none, .alloc [.string ⟨#[]⟩, .int .i64 0, .int .i64 0, .int .i64 0, .int .i64 0]⟩,
        ⟨none, none, .store 5 (.tmp 4) (.tmp 14)⟩])
      (.seq (.draw 43 [⟨some 15, none, .fa 0 (.tmp 4)⟩,
        ⟨some 16, none, .load false 1 (.tmp 15)⟩,
        ⟨some 17, none, .call (.func 71) [(.tmp 16)]⟩,
        ⟨some 18, none, .not (.tmp 17)⟩,
        ⟨some 19, none, .mv (.tmp 18)⟩,
        ⟨some 20, some (19, false), .fa 1 (.tmp 4)⟩,
        ⟨some 21, some (19, false), .load false 1 (.tmp 20)⟩,
        ⟨some 22, some (19, false), .call (.func 73) [(.tmp 21), (.const (.int .i64 0)), (.const (.int .i64 1000))]⟩,
        ⟨some 23, some (19, false), .not (.tmp 22)⟩,
        ⟨some 24, none, .pick (.tmp 19) (.const (.bool true)) (.tmp 23)⟩,
        ⟨some 25, none, .mv (.tmp 24)⟩,
        ⟨some 26, some (25, false), .fa 2 (.tmp 4)⟩,
        ⟨some 27, some (25, false), .load false 1 (.tmp 26)⟩,
        ⟨some 28, some (25, false), .call (.func 73) [(.tmp 27), (.const (.int .i64 1)), (.const (.int .i64 100))]⟩,
        ⟨some 29, some (25, false), .not (.tmp 28)⟩,
        ⟨some 30, none, .pick (.tmp 25) (.const (.bool true)) (.tmp 29)⟩,
        ⟨some 31, none, .mv (.tmp 30)⟩,
        ⟨some 32, some (31, false), .fa 3 (.tmp 4)⟩,
        ⟨some 33, some (31, false), .load false 1 (.tmp 32)⟩,
        ⟨some 34, some (31, false), .call (.func 73) [(.tmp 33), (.const (.int .i64 1)), (.const (.int .i64 5))]⟩,
        ⟨some 35, some (31, false), .not (.tmp 34)⟩,
        ⟨some 36, none, .pick (.tmp 31) (.const (.bool true)) (.tmp 35)⟩,
        ⟨some 37, none, .mv (.tmp 36)⟩,
        ⟨some 38, some (37, false), .fa 4 (.tmp 4)⟩,
        ⟨some 39, some (37, false), .load false 1 (.tmp 38)⟩,
        ⟨some 40, some (37, false), .call (.func 105) [(.tmp 39)]⟩,
        ⟨some 41, some (37, false), .not (.tmp 40)⟩,
        ⟨some 42, none, .pick (.tmp 37) (.const (.bool true)) (.tmp 41)⟩,
        ⟨some 43, none, .mv (.tmp 42)⟩,
        ⟨some 44, some (43, false), .mv (.tmp 3)⟩,
        ⟨some 45, some (43, false), .bin .gtr 0 (.tmp 44) (.const (.int .i64 0))⟩,
        ⟨some 46, some (43, false), .mv (.tmp 45)⟩,
        ⟨some 47, some (46, true), .mv (.tmp 0)⟩,
        ⟨some 48, some (46, true), .mv (.tmp 3)⟩,
        ⟨some 49, some (46, true), .bin .sub 0 (.tmp 48) (.const (.int .i64 1))⟩,
        ⟨some 50, some (46, true), .ia 5 (.tmp 47) (.tmp 49)⟩,
        ⟨some 51, some (46, true), .fa 0 (.tmp 50)⟩,
        ⟨some 52, some (46, true), .load false 1 (.tmp 51)⟩,
        ⟨some 53, some (46, true), .fa 0 (.tmp 4)⟩,
        ⟨some 54, some (46, true), .load false 1 (.tmp 53)⟩,
        ⟨some 55, some (46, true), .bin .geq 0 (.tmp 52) (.tmp 54)⟩,
        ⟨some 56, some (43, false), .pick (.tmp 46) (.tmp 55) (.const (.bool false))⟩,
        ⟨some 57, none, .pick (.tmp 43) (.const (.bool true)) (.tmp 56)⟩])
      (.cond (.tmp 57) (.seq (.ops [⟨some 2, none, .mv (.const (.bool false))⟩])
       .ret)
      .skip))))
    (.ops [⟨some 9, none, .mv (.tmp 3)⟩,
     ⟨some 10, none, .bin .add 0 (.tmp 9) (.const (.int .i64 1))⟩,
     ⟨some 3, none, .mv (.tmp 10)⟩]))))))
 (.seq (.ops [⟨some 58, none, .mv (.tmp 0)⟩,
   ⟨some 59, none, .len false (.tmp 58)⟩,
   ⟨some 60, none, .bin .leq 0 (.tmp 59) (.const (.int .i64 8))⟩,
   ⟨some 2, none, .mv (.tmp 60)⟩])
 .ret)))
theorem C103_ok : Try.f103.body.bind (comp Try.prog) = some C103 := by kernel_rfl
theorem C103_res : compRs Try.prog Try.f103.results.toList = some [.tmp 2] := by kernel_rfl
theorem C103_nm : (Try.f103.name == "runtime.NumGoroutine") = false := by kernel_rfl
theorem C103_fn {a0 : AV} {H : Heap} {Q : AV → Heap → Prop} (h : vc Try.prog C103 (vcEnd [.tmp 2] Q) H [a0, .any, .any, .any, .any, .any, .any, .any, .any, .any, .any, .any, .any, .any, .any, .any, .any, .any, .any, .any, .any, .any, .any, .any, .any, .any, .any, .any, .any, .any, .any, .any, .any, .any, .any, .any, .any, .any, .any, .any, .any, .any, .any, .any, .any, .any, .any, .any, .any, .any, .any, .any, .any, .any, .any, .any, .any, .any, .any, .any, .any]) : Runs Try.prog 103 [a0] H Q :=
  @fn_go Try.prog mixed 103 Try.f103 C103 [.tmp 2] Try.func103 C103_ok C103_res C103_nm 61 Try.ntmps103 [a0] [a0, .any, .any, .any, .any, .any, .any, .any, .any, .any, .any, .any, .any, .any, .any, .any, .any, .any, .any, .any, .any, .any, .any, .any, .any, .any, .any, .any, .any, .any, .any, .any, .any, .any, .any, .any, .any, .any, .any, .any, .any, .any, .any, .any, .any, .any, .any, .any, .any, .any, .any, .any, .any, .any, .any, .any, .any, .any, .any, .any, .any] H Q h 60 (by kernel_rfl) (by kernel_rfl)

/-- spec.l22Find -/
def C104 : CC :=
 (.seq (.ops [⟨some 4, none, .mv (.const (.int .i64 0))⟩])
 (.seq (.seq (.ops [⟨some 5, none, .mv (.const (.int .i64 0))⟩])
  (.block 0 (.loop (.seq (.seq (.ops [⟨some 6, none, .mv (.tmp 5)⟩,
       ⟨some 7, none, .mv (.tmp 0)⟩,
       ⟨some 8, none, .len false (.tmp 7)⟩,
       ⟨some 9, none, .bin .lss 0 (.tmp 6) (.tmp 8)⟩])
     (.cond (.tmp 9) .skip
     (.exit 0)))
    (.seq (.block 1 (.seq (.ops [⟨some 12, none, .mv (.tmp 0)⟩,
        ⟨some 13, none, .mv (.tmp 5)⟩,
        ⟨some 14, none, .ia 5 (.tmp 12) (.tmp 13)⟩,
        ⟨some 15, none, .fa 0 (.tmp 14)⟩,
        ⟨some 16, none, .load false 1 (.tmp 15)⟩,
        ⟨some 17, none, .mv (.tmp 1)⟩,
        ⟨some 18, none, .bin .eql 0 (.tmp 16) (.tmp 17)⟩])
      (.cond (.tmp 18) (.seq (.ops [⟨some 19, none, .mv (.tmp 5)⟩,
         ⟨some 4, none, .mv (.tmp 19)⟩])
       .ret)
      .skip)))
    (.ops [⟨some 10, none, .mv (.tmp 5)⟩,
     ⟨some 11, none, .bin .add 0 (.tmp 10) (.const (.int .i64 1))⟩,
     ⟨some 5, none, .mv (.tmp 11)⟩]))))))
 (.seq (.ops [⟨some 4, none, .mv (.const (.int .i64 (-1)))⟩])
 .ret)))
theorem C104_ok : Try.f104.body.bind (comp Try.prog) = some C104 := by kernel_rfl
theorem C104_res : compRs Try.prog Try.f104.results.toList = some [.tmp 4] := by kernel_rfl
theorem C104_nm : (Try.f104.name == "runtime.NumGoroutine") = false := by kernel_rfl
theorem C104_fn {a0 a1 : AV} {H : Heap} {Q : AV → Heap → Prop} (h : vc Try.prog C104 (vcEnd [.tmp 4] Q) H [a0, a1, .any, .any, .any, .any, .any, .any, .any, .any, .any, .any, .any, .any, .any, .any, .any, .any, .any, .any]) : Runs Try.prog 104 [a0, a1] H Q :=
  @fn_go Try.prog mixed 104 Try.f104 C104 [.tmp 4] Try.func104 C104_ok C104_res C104_nm 20 Try.ntmps104 [a0, a1] [a0, a1, .any, .any, .any, .any, .any, .any, .any, .any, .any, .any, .any, .any, .any, .any, .any, .any, .any, .any] H Q h 18 (by kernel_rfl) (by kernel_rfl)

end Go.Proofs.Ytpaflfaokgapgaa
