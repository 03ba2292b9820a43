/- The code of the functions, in the form of our laws; each is the program's own, by the kernel. Written by a program of ours. -/
import Derived.Test.YtbgnlnlgjmipfaaB0
import Derived.KernelRfl
namespace Go.Proofs.Ytbgnlnlgjmipfaa
open Go.Abs

/-- spec.CostsCovered -/
def C60 : CC :=
 (.seq (.ops [⟨some 4, none, .mv (.const (.bool false))⟩,
   ⟨some 5, none, .mv (.const (.int .i64 0))⟩])
 (.seq (.ops [⟨some 9, none, .mv (.tmp 0)⟩,
   ⟨some 10, none, .mv (.tmp 1)⟩,
   ⟨some 11, none, .call (.func 115) [(.tmp 9), (.tmp 10)]⟩,
   ⟨some 6, none, .mv (.tmp 11)⟩])
 (.seq (.seq (.ops [⟨some 12, none, .mv (.tmp 6)⟩,
    ⟨some 13, none, .bin .neq 0 (.tmp 12) (.const (.int .i64 0))⟩])
  (.cond (.tmp 13) (.seq (.ops [⟨some 14, none, .mv (.tmp 6)⟩,
     ⟨some 4, none, .mv (.const (.bool false))⟩,
     ⟨some 5, none, .mv (.tmp 14)⟩])
   .ret)
  .skip))
 (.seq (.ops [⟨some 7, none, .mv (.const (.int .i64 0))⟩])
 (.seq (.seq (.ops [⟨some 8, none, .mv (.const (.int .i64 0))⟩])
  (.block 0 (.loop (.seq (.seq (.ops [⟨some 15, none, .mv (.tmp 8)⟩,
       ⟨some 16, none, .mv (.tmp 0)⟩,
       ⟨some 17, none, .len false (.tmp 16)⟩,
       ⟨some 18, none, .bin .lss 0 (.tmp 15) (.tmp 17)⟩])
     (.cond (.tmp 18) .skip
     (.exit 0)))
    (.seq (.block 1 (.ops [⟨some 21, none, .mv (.tmp 7)⟩,
       ⟨some 22, none, .mv (.tmp 0)⟩,
       ⟨some 23, none, .mv (.tmp 8)⟩,
       ⟨some 24, none, .ia 5 (.tmp 22) (.tmp 23)⟩,
       ⟨some 25, none, .fa 4 (.tmp 24)⟩,
       ⟨some 26, none, .load false 1 (.tmp 25)⟩,
       ⟨some 27, none, .bin .add 0 (.tmp 21) (.tmp 26)⟩,
       ⟨some 7, none, .mv (.tmp 27)⟩]))
    (.ops [⟨some 19, none, .mv (.tmp 8)⟩,
     ⟨some 20, none, .bin .add 0 (.tmp 19) (.const (.int .i64 1))⟩,
     ⟨some 8, none, .mv (.tmp 20)⟩]))))))
 (.seq (.ops [⟨some 28, none, .mv (.tmp 7)⟩,
   ⟨some 29, none, .mv (.tmp 1)⟩,
   ⟨some 30, none, .bin .leq 0 (.tmp 28) (.tmp 29)⟩,
   ⟨some 4, none, .mv (.tmp 30)⟩,
   ⟨some 5, none, .mv (.const (.int .i64 0))⟩])
 .ret))))))
theorem C60_ok : Try.f60.body.bind (comp Try.prog) = some C60 := by kernel_rfl
theorem C60_res : compRs Try.prog Try.f60.results.toList = some [.tmp 4, .tmp 5] := by kernel_rfl
theorem C60_nm : (Try.f60.name == "runtime.NumGoroutine") = false := by kernel_rfl
theorem C60_fn {a0 a1 : AV} {H : Heap} {Q : AV → Heap → Prop} (h : vc Try.prog C60 (vcEnd [.tmp 4, .tmp 5] Q) H [a0, a1, .any, .any, .any, .any, .any, .any, .any, .any, .any, .any, .any, .any, .any, .any, .any, .any, .any, .any, .any, .any, .any, .any, .any, .any, .any, .any, .any, .any, .any]) : Runs Try.prog 60 [a0, a1] H Q :=
  @fn_go Try.prog mixed 60 Try.f60 C60 [.tmp 4, .tmp 5] Try.func60 C60_ok C60_res C60_nm 31 Try.ntmps60 [a0, a1] [a0, a1, .any, .any, .any, .any, .any, .any, .any, .any, .any, .any, .any, .any, .any, .any, .any, .any, .any, .any, .any, .any, .any, .any, .any, .any, .any, .any, .any, .any, .any] H Q h 29 (by kernel_rfl) (by kernel_rfl)

/-- spec.DrawMeritOf -/
def C61 : CC :=
 (.seq (.ops [⟨some 2, none, .mv (.const (.slice none 0 0))⟩,
   ⟨some 3, none, .mv (.const (.string ⟨#[]⟩))⟩])
 (.seq (.ops [⟨some 6, none, .mv (.tmp 0)⟩,
   ⟨some 7, none, .call (.func 110) [(.tmp 6)]⟩,
   ⟨some 4, none, .mv (.tmp 7)⟩])
 (.seq (.ops [⟨some 8, none, .mv (.tmp 4)⟩,
   ⟨some 9, none, .call (.func 122) [(.tmp 8)]⟩,
   ⟨some 5, none, .mv (.tmp 9)⟩])
 (.seq (.loud 7 (.step ⟨some 11, none, .lit 1 [(.const (.string ⟨#[115, 109, 105, 116]⟩)), (.const (.string ⟨#[116, 117, 103]⟩)), (.const (.string ⟨#[119, 111, 108, 102]⟩)), (.const (.string ⟨#[122, 119, 97, 114, 116]⟩)), (.const (.string ⟨#[110, 111, 110, 101]⟩))]⟩ (.step ⟨some 14, none, .ia 1 (.tmp 11) (.tmp 13)⟩ (.step ⟨some 15, none, .load false 1 (.tmp 14)⟩ .leaf)))
   [⟨some 10, none, .mv (.tmp 5)⟩, 
  ⟨none, none, .mv (.const undef)⟩, 
  ⟨some 12, none, .mv (.tmp 4)⟩, 
  ⟨some 13, none, .call (.func 112) [(.tmp 12), (.const (.int .i64 5))]⟩, 
  ⟨none, none, .mv (.const undef)⟩, 
  ⟨none, none, .mv (.const undef)⟩, 
  ⟨some 2, none, .mv (.tmp 10)⟩]
   [⟨some 3, none, .mv (.tmp 15)⟩])
 .ret))))
theorem C61_ok : Try.f61.body.bind (comp Try.prog) = some C61 := by kernel_rfl
theorem C61_res : compRs Try.prog Try.f61.results.toList = some [.tmp 2, .tmp 3] := by kernel_rfl
theorem C61_nm : (Try.f61.name == "runtime.NumGoroutine") = false := by kernel_rfl
theorem C61_fn {a0 : AV} {H : Heap} {Q : AV → Heap → Prop} (h : vc Try.prog C61 (vcEnd [.tmp 2, .tmp 3] Q) H [a0, .any, .any, .any, .any, .any, .any, .any, .any, .any, .any, .any, .any, .any, .any, .any]) : Runs Try.prog 61 [a0] H Q :=
  @fn_go Try.prog mixed 61 Try.f61 C61 [.tmp 2, .tmp 3] Try.func61 C61_ok C61_res C61_nm 16 Try.ntmps61 [a0] [a0, .any, .any, .any, .any, .any, .any, .any, .any, .any, .any, .any, .any, .any, .any, .any] H Q h 15 (by kernel_rfl) (by kernel_rfl)

/-- impl.indexOf[impl.Claim] -/
def C123 : CC :=
 (.seq (.ops [⟨some 4, none, .mv (.const (.int .i64 0))⟩,
   ⟨some 5, none, .mv (.const (.int .i64 0))⟩])
 (.seq (.ops [⟨some 7, none, .mv (.tmp 0)⟩,
   ⟨some 8, none, .mv (.tmp 1)⟩,
   ⟨some 9, none, .call (.func 151) [(.tmp 7), (.tmp 8)]⟩,
   ⟨some 6, none, .mv (.tmp 9)⟩])
 (.seq (.seq (.ops [⟨some 10, none, .mv (.tmp 6)⟩,
    ⟨some 11, none, .bin .lss 0 (.tmp 10) (.const (.int .i64 0))⟩])
  (.cond (.tmp 11) (.seq (.ops [⟨some 4, none, .mv (.const (.int .i64 0))⟩,
     ⟨some 5, none, .mv (.const (.int .i64 4))⟩])
   .ret)
  .skip))
 (.seq (.ops [⟨some 12, none, .mv (.tmp 6)⟩,
   ⟨some 4, none, .mv (.tmp 12)⟩,
   ⟨some 5, none, .mv (.const (.int .i64 0))⟩])
 .ret))))
theorem C123_ok : Try.f123.body.bind (comp Try.prog) = some C123 := by kernel_rfl
theorem C123_res : compRs Try.prog Try.f123.results.toList = some [.tmp 4, .tmp 5] := by kernel_rfl
theorem C123_nm : (Try.f123.name == "runtime.NumGoroutine") = false := by kernel_rfl
theorem C123_fn {a0 a1 : AV} {H : Heap} {Q : AV → Heap → Prop} (h : vc Try.prog C123 (vcEnd [.tmp 4, .tmp 5] Q) H [a0, a1, .any, .any, .any, .any, .any, .any, .any, .any, .any, .any, .any]) : Runs Try.prog 123 [a0, a1] H Q :=
  @fn_go Try.prog mixed 123 Try.f123 C123 [.tmp 4, .tmp 5] Try.func123 C123_ok C123_res C123_nm 13 Try.ntmps123 [a0, a1] [a0, a1, .any, .any, .any, .any, .any, .any, .any, .any, .any, .any, .any] H Q h 11 (by kernel_rfl) (by kernel_rfl)

/-- impl.MeritOf$1 -/
def C124 : CC :=
 (.seq (.ops [⟨some 2, none, .box (.tmp 0)⟩,
   ⟨some 3, none, .mv (.const (.bool false))⟩])
 (.seq (.ops [⟨some 4, none, .fa 0 (.tmp 2)⟩,
   ⟨some 5, none, .load false 1 (.tmp 4)⟩,
   ⟨some 6, none, .load false 1 (.tmp 1)⟩,
   ⟨some 7, none, .bin .eql 0 (.tmp 5) (.tmp 6)⟩,
   ⟨some 3, none, .mv (.tmp 7)⟩])
 .ret))
theorem C124_ok : Try.f124.body.bind (comp Try.prog) = some C124 := by kernel_rfl
theorem C124_res : compRs Try.prog Try.f124.results.toList = some [.tmp 3] := by kernel_rfl
theorem C124_nm : (Try.f124.name == "runtime.NumGoroutine") = false := by kernel_rfl
theorem C124_fn {a0 a1 : AV} {H : Heap} {Q : AV → Heap → Prop} (h : vc Try.prog C124 (vcEnd [.tmp 3] Q) H [a0, a1, .any, .any, .any, .any, .any, .any]) : Runs Try.prog 124 [a0, a1] H Q :=
  @fn_go Try.prog mixed 124 Try.f124 C124 [.tmp 3] Try.func124 C124_ok C124_res C124_nm 8 Try.ntmps124 [a0, a1] [a0, a1, .any, .any, .any, .any, .any, .any] H Q h 6 (by kernel_rfl) (by kernel_rfl)

/-- impl.MeritOf -/
def C62 : CC :=
 (.seq (.ops [⟨some 3, none, .box (.tmp 1)⟩,
   ⟨some 4, none, .mv (.const (.int .i64 0))⟩,
   ⟨some 5, none, .mv (.const (.int .i64 0))⟩])
 (.seq (.seq (.ops [⟨some 8, none, .mv (.tmp 0)⟩,
    ⟨some 9, none, .call (.func 67) [(.tmp 8)]⟩,
    ⟨some 10, none, .not (.tmp 9)⟩])
  (.cond (.tmp 10) (.seq (.ops [⟨some 4, none, .mv (.const (.int .i64 0))⟩,
     ⟨some 5, none, .mv (.const (.int .i64 1))⟩])
   .ret)
  .skip))
 (.seq (.ops [⟨some 12, none, .mv (.tmp 0)⟩,
   ⟨some 13, none, .mkf 124 [(.tmp 3)]⟩,
   ⟨some 14, none, .call (.func 123) [(.tmp 12), (.tmp 13)]⟩,
   ⟨some 11, none, .mv (.tmp 14)⟩,
   ⟨some 15, none, .ext (.tmp 11) 0⟩,
   ⟨some 16, none, .ext (.tmp 11) 1⟩,
   ⟨some 6, none, .mv (.tmp 15)⟩,
   ⟨some 7, none, .mv (.tmp 16)⟩])
 (.seq (.seq (.ops [⟨some 17, none, .mv (.tmp 7)⟩,
    ⟨some 18, none, .bin .neq 0 (.tmp 17) (.const (.int .i64 0))⟩])
  (.cond (.tmp 18) (.seq (.ops [⟨some 19, none, .mv (.tmp 7)⟩,
     ⟨some 4, none, .mv (.const (.int .i64 0))⟩,
     ⟨some 5, none, .mv (.tmp 19)⟩])
   .ret)
  .skip))
 (.seq (.ops [⟨some 20, none, .mv (.tmp 0)⟩,
   ⟨some 21, none, .mv (.tmp 6)⟩,
   ⟨some 22, none, .ia 5 (.tmp 20) (.tmp 21)⟩,
   ⟨some 23, none, .load true 5 (.tmp 22)⟩,
   ⟨some 24, none, .call (.func 78) [(.tmp 23)]⟩,
   ⟨some 4, none, .mv (.tmp 24)⟩,
   ⟨some 5, none, .mv (.const (.int .i64 0))⟩])
 .ret)))))
theorem C62_ok : Try.f62.body.bind (comp Try.prog) = some C62 := by kernel_rfl
theorem C62_res : compRs Try.prog Try.f62.results.toList = some [.tmp 4, .tmp 5] := by kernel_rfl
theorem C62_nm : (Try.f62.name == "runtime.NumGoroutine") = false := by kernel_rfl
theorem C62_fn {a0 a1 : AV} {H : Heap} {Q : AV → Heap → Prop} (h : vc Try.prog C62 (vcEnd [.tmp 4, .tmp 5] Q) H [a0, a1, .any, .any, .any, .any, .any, .any, .any, .any, .any, .any, .any, .any, .any, .any, .any, .any, .any, .any, .any, .any, .any, .any, .any]) : Runs Try.prog 62 [a0, a1] H Q :=
  @fn_go Try.prog mixed 62 Try.f62 C62 [.tmp 4, .tmp 5] Try.func62 C62_ok C62_res C62_nm 25 Try.ntmps62 [a0, a1] [a0, a1, .any, .any, .any, .any, .any, .any, .any, .any, .any, .any, .any, .any, .any, .any, .any, .any, .any, .any, .any, .any, .any, .any, .any] H Q h 23 (by kernel_rfl) (by kernel_rfl)

/-- spec.MeritOf -/
def C63 : CC :=
 (.seq (.ops [⟨some 4, none, .mv (.const (.int .i64 0))⟩,
   ⟨some 5, none, .mv (.const (.int .i64 0))⟩])
 (.seq (.seq (.ops [⟨some 7, none, .mv (.tmp 0)⟩,
    ⟨some 8, none, .call (.func 68) [(.tmp 7)]⟩,
    ⟨some 9, none, .not (.tmp 8)⟩])
  (.cond (.tmp 9) (.seq (.ops [⟨some 4, none, .mv (.const (.int .i64 0))⟩,
     ⟨some 5, none, .mv (.const (.int .i64 1))⟩])
   .ret)
  .skip))
 (.seq (.ops [⟨some 10, none, .mv (.tmp 0)⟩,
   ⟨some 11, none, .mv (.tmp 1)⟩,
   ⟨some 12, none, .call (.func 125) [(.tmp 10), (.tmp 11)]⟩,
   ⟨some 6, none, .mv (.tmp 12)⟩])
 (.seq (.seq (.ops [⟨some 13, none, .mv (.tmp 6)⟩,
    ⟨some 14, none, .bin .lss 0 (.tmp 13) (.const (.int .i64 0))⟩])
  (.cond (.tmp 14) (.seq (.ops [⟨some 4, none, .mv (.const (.int .i64 0))⟩,
     ⟨some 5, none, .mv (.const (.int .i64 4))⟩])
   .ret)
  .skip))
 (.seq (.ops [⟨some 15, none, .mv (.tmp 0)⟩,
   ⟨some 16, none, .mv (.tmp 6)⟩,
   ⟨some 17, none, .ia 5 (.tmp 15) (.tmp 16)⟩,
   ⟨some 18, none, .load true 5 (.tmp 17)⟩,
   ⟨some 19, none, .call (.func 76) [(.tmp 18)]⟩,
   ⟨some 4, none, .mv (.tmp 19)⟩,
   ⟨some 5, none, .mv (.const (.int .i64 0))⟩])
 .ret)))))
theorem C63_ok : Try.f63.body.bind (comp Try.prog) = some C63 := by kernel_rfl
theorem C63_res : compRs Try.prog Try.f63.results.toList = some [.tmp 4, .tmp 5] := by kernel_rfl
theorem C63_nm : (Try.f63.name == "runtime.NumGoroutine") = false := by kernel_rfl
theorem C63_fn {a0 a1 : AV} {H : Heap} {Q : AV → Heap → Prop} (h : vc Try.prog C63 (vcEnd [.tmp 4, .tmp 5] Q) H [a0, a1, .any, .any, .any, .any, .any, .any, .any, .any, .any, .any, .any, .any, .any, .any, .any, .any, .any, .any]) : Runs Try.prog 63 [a0, a1] H Q :=
  @fn_go Try.prog mixed 63 Try.f63 C63 [.tmp 4, .tmp 5] Try.func63 C63_ok C63_res C63_nm 20 Try.ntmps63 [a0, a1] [a0, a1, .any, .any, .any, .any, .any, .any, .any, .any, .any, .any, .any, .any, .any, .any, .any, .any, .any, .any] H Q h 18 (by kernel_rfl) (by kernel_rfl)

/-- spec.l04DrawPoints -/
def C126 : CC :=
 (.seq (.ops [⟨some 2, none, .mv (.const (.int .i64 0))⟩])
 (.seq (.ops [⟨some 3, none, .mv (.tmp 0)⟩,
   ⟨some 4, none, .mv (.tmp 0)⟩,
   ⟨some 5, none, .call (.func 112) [(.tmp 4), (.const (.int .i64 1000))]⟩,
   ⟨some 6, none, .mv (.tmp 0)⟩,
   ⟨some 7, none, .call (.func 112) [(.tmp 6), (.const (.int .i64 1000))]⟩,
   ⟨some 8, none, .lit 1 [(.const (.int .i64 200)), (.const (.int .i64 700)), (.tmp 5), (.const (.int .i64 0)), (.const (.int .i64 10000)), (.const (.int .i64 10001)), (.const (.int .i64 (-1))), (.tmp 7)]⟩,
   ⟨some 9, none, .call (.func 114) [(.tmp 3), (.tmp 8)]⟩,
   ⟨some 2, none, .mv (.tmp 9)⟩])
 .ret))
theorem C126_ok : Try.f126.body.bind (comp Try.prog) = some C126 := by kernel_rfl
theorem C126_res : compRs Try.prog Try.f126.results.toList = some [.tmp 2] := by kernel_rfl
theorem C126_nm : (Try.f126.name == "runtime.NumGoroutine") = false := by kernel_rfl
theorem C126_fn {a0 : AV} {H : Heap} {Q : AV → Heap → Prop} (h : vc Try.prog C126 (vcEnd [.tmp 2] Q) H [a0, .any, .any, .any, .any, .any, .any, .any, .any, .any]) : Runs Try.prog 126 [a0] H Q :=
  @fn_go Try.prog mixed 126 Try.f126 C126 [.tmp 2] Try.func126 C126_ok C126_res C126_nm 10 Try.ntmps126 [a0] [a0, .any, .any, .any, .any, .any, .any, .any, .any, .any] H Q h 9 (by kernel_rfl) (by kernel_rfl)

/-- spec.DrawFundFor -/
def C64 : CC :=
 (.seq (.ops [⟨some 2, none, .mv (.const (.int .i64 0))⟩,
   ⟨some 3, none, .mv (.const (.int .i64 0))⟩])
 (.seq (.ops [⟨some 6, none, .mv (.tmp 0)⟩,
   ⟨some 7, none, .call (.func 110) [(.tmp 6)]⟩,
   ⟨some 4, none, .mv (.tmp 7)⟩])
 (.seq (.ops [⟨some 8, none, .mv (.tmp 4)⟩,
   ⟨some 9, none, .call (.func 113) [(.tmp 8)]⟩,
   ⟨some 5, none, .mv (.tmp 9)⟩])
 (.seq (.ops [⟨some 10, none, .mv (.tmp 5)⟩,
   ⟨some 11, none, .mv (.tmp 4)⟩,
   ⟨some 12, none, .call (.func 126) [(.tmp 11)]⟩,
   ⟨some 2, none, .mv (.tmp 10)⟩,
   ⟨some 3, none, .mv (.tmp 12)⟩])
 .ret))))
theorem C64_ok : Try.f64.body.bind (comp Try.prog) = some C64 := by kernel_rfl
theorem C64_res : compRs Try.prog Try.f64.results.toList = some [.tmp 2, .tmp 3] := by kernel_rfl
theorem C64_nm : (Try.f64.name == "runtime.NumGoroutine") = false := by kernel_rfl
theorem C64_fn {a0 : AV} {H : Heap} {Q : AV → Heap → Prop} (h : vc Try.prog C64 (vcEnd [.tmp 2, .tmp 3] Q) H [a0, .any, .any, .any, .any, .any, .any, .any, .any, .any, .any, .any, .any]) : Runs Try.prog 64 [a0] H Q :=
  @fn_go Try.prog mixed 64 Try.f64 C64 [.tmp 2, .tmp 3] Try.func64 C64_ok C64_res C64_nm 13 Try.ntmps64 [a0] [a0, .any, .any, .any, .any, .any, .any, .any, .any, .any, .any, .any, .any] H Q h 12 (by kernel_rfl) (by kernel_rfl)

/-- impl.isPoints -/
def C127 : CC :=
 (.seq (.ops [⟨some 2, none, .mv (.const (.bool false))⟩])
 (.seq (.ops [⟨some 3, none, .mv (.tmp 0)⟩,
   ⟨some 4, none, .call (.func 87) [(.tmp 3), (.const (.int .i64 0)), (.const (.int .i64 10000))]⟩,
   ⟨some 2, none, .mv (.tmp 4)⟩])
 .ret))
theorem C127_ok : Try.f127.body.bind (comp Try.prog) = some C127 := by kernel_rfl
theorem C127_res : compRs Try.prog Try.f127.results.toList = some [.tmp 2] := by kernel_rfl
theorem C127_nm : (Try.f127.name == "runtime.NumGoroutine") = false := by kernel_rfl
theorem C127_fn {a0 : AV} {H : Heap} {Q : AV → Heap → Prop} (h : vc Try.prog C127 (vcEnd [.tmp 2] Q) H [a0, .any, .any, .any, .any]) : Runs Try.prog 127 [a0] H Q :=
  @fn_go Try.prog mixed 127 Try.f127 C127 [.tmp 2] Try.func127 C127_ok C127_res C127_nm 5 Try.ntmps127 [a0] [a0, .any, .any, .any, .any] H Q h 4 (by kernel_rfl) (by kernel_rfl)

/-- impl.FundFor -/
def C65 : CC :=
 (.seq (.ops [⟨some 4, none, .mv (.const (.int .i64 0))⟩,
   ⟨some 5, none, .mv (.const (.int .i64 0))⟩])
 (.seq (.seq (.ops [⟨some 6, none, .mv (.tmp 0)⟩,
    ⟨some 7, none, .call (.func 100) [(.tmp 6)]⟩,
    ⟨some 8, none, .not (.tmp 7)⟩,
    ⟨some 9, none, .mv (.tmp 8)⟩,
    ⟨some 10, some (9, false), .mv (.tmp 1)⟩,
    ⟨some 11, some (9, false), .call (.func 127) [(.tmp 10)]⟩,
    ⟨some 12, some (9, false), .not (.tmp 11)⟩,
    ⟨some 13, none, .pick (.tmp 9) (.const (.bool true)) (.tmp 12)⟩])
  (.cond (.tmp 13) (.seq (.ops [⟨some 4, none, .mv (.const (.int .i64 0))⟩,
     ⟨some 5, none, .mv (.const (.int .i64 2))⟩])
   .ret)
  .skip))
 (.seq (.ops [⟨some 14, none, .mv (.tmp 0)⟩,
   ⟨some 15, none, .mv (.tmp 1)⟩,
   ⟨some 16, none, .bin .mul 0 (.tmp 14) (.tmp 15)⟩,
   ⟨some 17, none, .bin .quo 0 (.tmp 16) (.const (.int .i64 10000))⟩,
   ⟨some 4, none, .mv (.tmp 17)⟩,
   ⟨some 5, none, .mv (.const (.int .i64 0))⟩])
 .ret)))
theorem C65_ok : Try.f65.body.bind (comp Try.prog) = some C65 := by kernel_rfl
theorem C65_res : compRs Try.prog Try.f65.results.toList = some [.tmp 4, .tmp 5] := by kernel_rfl
theorem C65_nm : (Try.f65.name == "runtime.NumGoroutine") = false := by kernel_rfl
theorem C65_fn {a0 a1 : AV} {H : Heap} {Q : AV → Heap → Prop} (h : vc Try.prog C65 (vcEnd [.tmp 4, .tmp 5] Q) H [a0, a1, .any, .any, .any, .any, .any, .any, .any, .any, .any, .any, .any, .any, .any, .any, .any, .any]) : Runs Try.prog 65 [a0, a1] H Q :=
  @fn_go Try.prog mixed 65 Try.f65 C65 [.tmp 4, .tmp 5] Try.func65 C65_ok C65_res C65_nm 18 Try.ntmps65 [a0, a1] [a0, a1, .any, .any, .any, .any, .any, .any, .any, .any, .any, .any, .any, .any, .any, .any, .any, .any] H Q h 16 (by kernel_rfl) (by kernel_rfl)

/-- spec.l04Points -/
def C128 : CC :=
 (.seq (.ops [⟨some 2, none, .mv (.const (.bool false))⟩])
 (.seq (.ops [⟨some 3, none, .mv (.tmp 0)⟩,
   ⟨some 4, none, .call (.func 86) [(.tmp 3), (.const (.int .i64 0)), (.const (.int .i64 10000))]⟩,
   ⟨some 2, none, .mv (.tmp 4)⟩])
 .ret))
theorem C128_ok : Try.f128.body.bind (comp Try.prog) = some C128 := by kernel_rfl
theorem C128_res : compRs Try.prog Try.f128.results.toList = some [.tmp 2] := by kernel_rfl
theorem C128_nm : (Try.f128.name == "runtime.NumGoroutine") = false := by kernel_rfl
theorem C128_fn {a0 : AV} {H : Heap} {Q : AV → Heap → Prop} (h : vc Try.prog C128 (vcEnd [.tmp 2] Q) H [a0, .any, .any, .any, .any]) : Runs Try.prog 128 [a0] H Q :=
  @fn_go Try.prog mixed 128 Try.f128 C128 [.tmp 2] Try.func128 C128_ok C128_res C128_nm 5 Try.ntmps128 [a0] [a0, .any, .any, .any, .any] H Q h 4 (by kernel_rfl) (by kernel_rfl)

/-- spec.FundFor -/
def C66 : CC :=
 (.seq (.ops [⟨some 4, none, .mv (.const (.int .i64 0))⟩,
   ⟨some 5, none, .mv (.const (.int .i64 0))⟩])
 (.seq (.seq (.ops [⟨some 6, none, .mv (.tmp 0)⟩,
    ⟨some 7, none, .call (.func 98) [(.tmp 6)]⟩,
    ⟨some 8, none, .not (.tmp 7)⟩,
    ⟨some 9, none, .mv (.tmp 8)⟩,
    ⟨some 10, some (9, false), .mv (.tmp 1)⟩,
    ⟨some 11, some (9, false), .call (.func 128) [(.tmp 10)]⟩,
    ⟨some 12, some (9, false), .not (.tmp 11)⟩,
    ⟨some 13, none, .pick (.tmp 9) (.const (.bool true)) (.tmp 12)⟩])
  (.cond (.tmp 13) (.seq (.ops [⟨some 4, none, .mv (.const (.int .i64 0))⟩,
     ⟨some 5, none, .mv (.const (.int .i64 2))⟩])
   .ret)
  .skip))
 (.seq (.ops [⟨some 14, none, .mv (.tmp 0)⟩,
   ⟨some 15, none, .mv (.tmp 1)⟩,
   ⟨some 16, none, .bin .mul 0 (.tmp 14) (.tmp 15)⟩,
   ⟨some 17, none, .bin .quo 0 (.tmp 16) (.const (.int .i64 10000))⟩,
   ⟨some 4, none, .mv (.tmp 17)⟩,
   ⟨some 5, none, .mv (.const (.int .i64 0))⟩])
 .ret)))
theorem C66_ok : Try.f66.body.bind (comp Try.prog) = some C66 := by kernel_rfl
theorem C66_res : compRs Try.prog Try.f66.results.toList = some [.tmp 4, .tmp 5] := by kernel_rfl
theorem C66_nm : (Try.f66.name == "runtime.NumGoroutine") = false := by kernel_rfl
theorem C66_fn {a0 a1 : AV} {H : Heap} {Q : AV → Heap → Prop} (h : vc Try.prog C66 (vcEnd [.tmp 4, .tmp 5] Q) H [a0, a1, .any, .any, .any, .any, .any, .any, .any, .any, .any, .any, .any, .any, .any, .any, .any, .any]) : Runs Try.prog 66 [a0, a1] H Q :=
  @fn_go Try.prog mixed 66 Try.f66 C66 [.tmp 4, .tmp 5] Try.func66 C66_ok C66_res C66_nm 18 Try.ntmps66 [a0, a1] [a0, a1, .any, .any, .any, .any, .any, .any, .any, .any, .any, .any, .any, .any, .any, .any, .any, .any] H Q h 16 (by kernel_rfl) (by kernel_rfl)

/-- laws.FnSalvage -/
def C13 : CC :=
 (.seq (.ops [⟨some 2, none, .mv (.const (.bool false))⟩])
 (.seq (.seq (.ops [⟨some 33, none, .mv (.tmp 0)⟩,
    ⟨some 34, none, .call (.func 44) [(.tmp 33)]⟩])
  (.cond (.tmp 34) (.seq (.ops [⟨some 2, none, .mv (.const (.bool true))⟩])
   .ret)
  .skip))
 (.seq (.ops [⟨some 36, none, .mv (.tmp 0)⟩,
   ⟨some 37, none, .call (.func 58) [(.tmp 36)]⟩,
   ⟨some 35, none, .mv (.tmp 37)⟩,
   ⟨some 38, none, .ext (.tmp 35) 0⟩,
   ⟨some 39, none, .ext (.tmp 35) 1⟩,
   ⟨some 3, none, .mv (.tmp 38)⟩,
   ⟨some 4, none, .mv (.tmp 39)⟩])
 (.seq (.ops [⟨some 41, none, .mv (.tmp 3)⟩,
   ⟨some 42, none, .mv (.tmp 4)⟩,
   ⟨some 43, none, .call (.func 56) [(.tmp 41), (.tmp 42)]⟩,
   ⟨some 40, none, .mv (.tmp 43)⟩,
   ⟨some 44, none, .ext (.tmp 40) 0⟩,
   ⟨some 45, none, .ext (.tmp 40) 1⟩,
   ⟨some 5, none, .mv (.tmp 44)⟩,
   ⟨some 6, none, .mv (.tmp 45)⟩])
 (.seq (.ops [⟨some 47, none, .mv (.tmp 3)⟩,
   ⟨some 48, none, .mv (.tmp 4)⟩,
   ⟨some 49, none, .call (.func 55) [(.tmp 47), (.tmp 48)]⟩,
   ⟨some 46, none, .mv (.tmp 49)⟩,
   ⟨some 50, none, .ext (.tmp 46) 0⟩,
   ⟨some 51, none, .ext (.tmp 46) 1⟩,
   ⟨some 7, none, .mv (.tmp 50)⟩,
   ⟨some 8, none, .mv (.tmp 51)⟩])
 (.seq (.ops [⟨some 53, none, .mv (.tmp 3)⟩,
   ⟨some 54, none, .mv (.tmp 4)⟩,
   ⟨some 55, none, .call (.func 54) [(.tmp 53), (.tmp 54)]⟩,
   ⟨some 52, none, .mv (.tmp 55)⟩,
   ⟨some 56, none, .ext (.tmp 52) 0⟩,
   ⟨some 57, none, .ext (.tmp 52) 1⟩,
   ⟨some 9, none, .mv (.tmp 56)⟩,
   ⟨some 10, none, .mv (.tmp 57)⟩])
 (.seq (.ops [⟨some 59, none, .mv (.tmp 3)⟩,
   ⟨some 60, none, .mv (.tmp 4)⟩,
   ⟨some 61, none, .call (.func 53) [(.tmp 59), (.tmp 60)]⟩,
   ⟨some 58, none, .mv (.tmp 61)⟩,
   ⟨some 62, none, .ext (.tmp 58) 0⟩,
   ⟨some 63, none, .ext (.tmp 58) 1⟩,
   ⟨some 11, none, .mv (.tmp 62)⟩,
   ⟨some 12, none, .mv (.tmp 63)⟩])
 (.seq (.ops [⟨some 65, none, .mv (.tmp 3)⟩,
   ⟨some 66, none, .mv (.tmp 4)⟩,
   ⟨some 67, none, .call (.func 59) [(.tmp 65), (.tmp 66)]⟩,
   ⟨some 64, none, .mv (.tmp 67)⟩,
   ⟨some 68, none, .ext (.tmp 64) 0⟩,
   ⟨some 69, none, .ext (.tmp 64) 1⟩,
   ⟨some 13, none, .mv (.tmp 68)⟩,
   ⟨some 14, none, .mv (.tmp 69)⟩])
 (.seq (.ops [⟨some 71, none, .mv (.tmp 3)⟩,
   ⟨some 72, none, .mv (.tmp 4)⟩,
   ⟨some 73, none, .call (.func 60) [(.tmp 71), (.tmp 72)]⟩,
   ⟨some 70, none, .mv (.tmp 73)⟩,
   ⟨some 74, none, .ext (.tmp 70) 0⟩,
   ⟨some 75, none, .ext (.tmp 70) 1⟩,
   ⟨some 15, none, .mv (.tmp 74)⟩,
   ⟨some 16, none, .mv (.tmp 75)⟩])
 (.seq (.ops [⟨some 77, none, .mv (.tmp 0)⟩,
   ⟨some 78, none, .call (.func 61) [(.tmp 77)]⟩,
   ⟨some 76, none, .mv (.tmp 78)⟩,
   ⟨some 79, none, .ext (.tmp 76) 0⟩,
   ⟨some 80, none, .ext (.tmp 76) 1⟩,
   ⟨some 17, none, .mv (.tmp 79)⟩,
   ⟨some 18, none, .mv (.tmp 80)⟩])
 (.seq (.ops [⟨some 82, none, .mv (.tmp 17)⟩,
   ⟨some 83, none, .mv (.tmp 18)⟩,
   ⟨some 84, none, .call (.func 62) [(.tmp 82), (.tmp 83)]⟩,
   ⟨some 81, none, .mv (.tmp 84)⟩,
   ⟨some 85, none, .ext (.tmp 81) 0⟩,
   ⟨some 86, none, .ext (.tmp 81) 1⟩,
   ⟨some 19, none, .mv (.tmp 85)⟩,
   ⟨some 20, none, .mv (.tmp 86)⟩])
 (.seq (.ops [⟨some 88, none, .mv (.tmp 17)⟩,
   ⟨some 89, none, .mv (.tmp 18)⟩,
   ⟨some 90, none, .call (.func 63) [(.tmp 88), (.tmp 89)]⟩,
   ⟨some 87, none, .mv (.tmp 90)⟩,
   ⟨some 91, none, .ext (.tmp 87) 0⟩,
   ⟨some 92, none, .ext (.tmp 87) 1⟩,
   ⟨some 21, none, .mv (.tmp 91)⟩,
   ⟨some 22, none, .mv (.tmp 92)⟩])
 (.seq (.ops [⟨some 94, none, .mv (.tmp 0)⟩,
   ⟨some 95, none, .call (.func 64) [(.tmp 94)]⟩,
   ⟨some 93, none, .mv (.tmp 95)⟩,
   ⟨some 96, none, .ext (.tmp 93) 0⟩,
   ⟨some 97, none, .ext (.tmp 93) 1⟩,
   ⟨some 23, none, .mv (.tmp 96)⟩,
   ⟨some 24, none, .mv (.tmp 97)⟩])
 (.seq (.ops [⟨some 99, none, .mv (.tmp 23)⟩,
   ⟨some 100, none, .mv (.tmp 24)⟩,
   ⟨some 101, none, .call (.func 65) [(.tmp 99), (.tmp 100)]⟩,
   ⟨some 98, none, .mv (.tmp 101)⟩,
   ⟨some 102, none, .ext (.tmp 98) 0⟩,
   ⟨some 103, none, .ext (.tmp 98) 1⟩,
   ⟨some 25, none, .mv (.tmp 102)⟩,
   ⟨some 26, none, .mv (.tmp 103)⟩])
 (.seq (.ops [⟨some 105, none, .mv (.tmp 23)⟩,
   ⟨some 106, none, .mv (.tmp 24)⟩,
   ⟨some 107, none, .call (.func 66) [(.tmp 105), (.tmp 106)]⟩,
   ⟨some 104, none, .mv (.tmp 107)⟩,
   ⟨some 108, none, .ext (.tmp 104) 0⟩,
   ⟨some 109, none, .ext (.tmp 104) 1⟩,
   ⟨some 27, none, .mv (.tmp 108)⟩,
   ⟨some 28, none, .mv (.tmp 109)⟩])
 (.seq (.seq (.ops [⟨some 110, none, .mv (.tmp 6)⟩,
    ⟨some 111, none, .mv (.tmp 8)⟩,
    ⟨some 112, none, .bin .neq 0 (.tmp 110) (.tmp 111)⟩,
    ⟨some 113, none, .mv (.tmp 112)⟩,
    ⟨some 114, some (113, false), .mv (.tmp 5)⟩,
    ⟨some 115, some (113, false), .mv (.tmp 7)⟩,
    ⟨some 116, some (113, false), .call (.func 48) [(.tmp 114), (.tmp 115)]⟩,
    ⟨some 117, some (113, false), .not (.tmp 116)⟩,
    ⟨some 118, none, .pick (.tmp 113) (.const (.bool true)) (.tmp 117)⟩,
    ⟨some 119, none, .mv (.tmp 118)⟩,
    ⟨some 120, some (119, false), .mv (.tmp 10)⟩,
    ⟨some 121, some (119, false), .mv (.tmp 12)⟩,
    ⟨some 122, some (119, false), .bin .neq 0 (.tmp 120) (.tmp 121)⟩,
    ⟨some 123, none, .pick (.tmp 119) (.const (.bool true)) (.tmp 122)⟩,
    ⟨some 124, none, .mv (.tmp 123)⟩,
    ⟨some 125, some (124, false), .mv (.tmp 9)⟩,
    ⟨some 126, some (124, false), .mv (.tmp 11)⟩,
    ⟨some 127, some (124, false), .bin .neq 0 (.tmp 125) (.tmp 126)⟩,
    ⟨some 128, none, .pick (.tmp 124) (.const (.bool true)) (.tmp 127)⟩,
    ⟨some 129, none, .mv (.tmp 128)⟩,
    ⟨some 130, some (129, false), .mv (.tmp 14)⟩,
    ⟨some 131, some (129, false), .mv (.tmp 16)⟩,
    ⟨some 132, some (129, false), .bin .neq 0 (.tmp 130) (.tmp 131)⟩,
    ⟨some 133, none, .pick (.tmp 129) (.const (.bool true)) (.tmp 132)⟩,
    ⟨some 134, none, .mv (.tmp 133)⟩,
    ⟨some 135, some (134, false), .mv (.tmp 13)⟩,
    ⟨some 136, some (134, false), .mv (.tmp 15)⟩,
    ⟨some 137, some (134, false), .bin .neq 1 (.tmp 135) (.tmp 136)⟩,
    ⟨some 138, none, .pick (.tmp 134) (.const (.bool true)) (.tmp 137)⟩,
    ⟨some 139, none, .mv (.tmp 138)⟩,
    ⟨some 140, some (139, false), .mv (.tmp 20)⟩,
    ⟨some 141, some (139, false), .mv (.tmp 22)⟩,
    ⟨some 142, some (139, false), .bin .neq 0 (.tmp 140) (.tmp 141)⟩,
    ⟨some 143, none, .pick (.tmp 139) (.const (.bool true)) (.tmp 142)⟩,
    ⟨some 144, none, .mv (.tmp 143)⟩,
    ⟨some 145, some (144, false), .mv (.tmp 19)⟩,
    ⟨some 146, some (144, false), .mv (.tmp 21)⟩,
    ⟨some 147, some (144, false), .bin .neq 0 (.tmp 145) (.tmp 146)⟩,
    ⟨some 148, none, .pick (.tmp 144) (.const (.bool true)) (.tmp 147)⟩,
    ⟨some 149, none, .mv (.tmp 148)⟩,
    ⟨some 150, some (149, false), .mv (.tmp 26)⟩,
    ⟨some 151, some (149, false), .mv (.tmp 28)⟩,
    ⟨some 152, some (149, false), .bin .neq 0 (.tmp 150) (.tmp 151)⟩,
    ⟨some 153, none, .pick (.tmp 149) (.const (.bool true)) (.tmp 152)⟩,
    ⟨some 154, none, .mv (.tmp 153)⟩,
    ⟨some 155, some (154, false), .mv (.tmp 25)⟩,
    ⟨some 156, some (154, false), .mv (.tmp 27)⟩,
    ⟨some 157, some (154, false), .bin .neq 0 (.tmp 155) (.tmp 156)⟩,
    ⟨some 158, none, .pick (.tmp 154) (.const (.bool true)) (.tmp 157)⟩,
    ⟨some 159, none, .mv (.tmp 158)⟩,
    ⟨some 160, some (159, false), .mv (.tmp 17)⟩,
    ⟨some 161, some (159, false), .call (.func 67) [(.tmp 160)]⟩,
    ⟨some 162, some (159, false), .mv (.tmp 17)⟩,
    ⟨some 163, some (159, false), .call (.func 68) [(.tmp 162)]⟩,
    ⟨some 164, some (159, false), .bin .neq 1 (.tmp 161) (.tmp 163)⟩,
    ⟨some 165, none, .pick (.tmp 159) (.const (.bool true)) (.tmp 164)⟩,
    ⟨some 166, none, .mv (.tmp 165)⟩,
    ⟨some 167, some (166, false), .mv (.tmp 10)⟩,
    ⟨some 168, some (166, false), .mv (.tmp 6)⟩,
    ⟨some 169, some (166, false), .bin .neq 0 (.tmp 167) (.tmp 168)⟩,
    ⟨some 170, none, .pick (.tmp 166) (.const (.bool true)) (.tmp 169)⟩,
    ⟨some 171, none, .mv (.tmp 170)⟩,
    ⟨some 172, some (171, false), .mv (.tmp 14)⟩,
    ⟨some 173, some (171, false), .mv (.tmp 6)⟩,
    ⟨some 174, some (171, false), .bin .neq 0 (.tmp 172) (.tmp 173)⟩,
    ⟨some 175, none, .pick (.tmp 171) (.const (.bool true)) (.tmp 174)⟩,
    ⟨some 176, none, .mv (.tmp 175)⟩,
    ⟨some 177, some (176, false), .mv (.tmp 26)⟩,
    ⟨some 178, some (176, false), .bin .eql 0 (.tmp 177) (.const (.int .i64 0))⟩,
    ⟨some 179, some (176, false), .mv (.tmp 178)⟩,
    ⟨some 180, some (179, true), .mv (.tmp 25)⟩,
    ⟨some 181, some (179, true), .bin .lss 0 (.tmp 180) (.const (.int .i64 0))⟩,
    ⟨some 182, some (179, true), .mv (.tmp 181)⟩,
    ⟨some 183, some (182, false), .mv (.tmp 25)⟩,
    ⟨some 184, some (182, false), .mv (.tmp 23)⟩,
    ⟨some 185, some (182, false), .bin .gtr 0 (.tmp 183) (.tmp 184)⟩,
    ⟨some 186, some (179, true), .pick (.tmp 182) (.const (.bool true)) (.tmp 185)⟩,
    ⟨some 187, some (176, false), .pick (.tmp 179) (.tmp 186) (.const (.bool false))⟩,
    ⟨some 188, none, .pick (.tmp 176) (.const (.bool true)) (.tmp 187)⟩])
  (.cond (.tmp 188) (.seq (.ops [⟨some 2, none, .mv (.const (.bool false))⟩])
   .ret)
  .skip))
 (.seq (.seq (.ops [⟨some 189, none, .mv (.tmp 6)⟩,
    ⟨some 190, none, .bin .neq 0 (.tmp 189) (.const (.int .i64 0))⟩])
  (.cond (.tmp 190) (.seq (.ops [⟨some 2, none, .mv (.const (.bool true))⟩])
   .ret)
  .skip))
 (.seq (.seq (.ops [⟨some 191, none, .mv (.tmp 5)⟩,
    ⟨some 192, none, .call (.func 50) [(.tmp 191)]⟩,
    ⟨some 193, none, .mv (.tmp 9)⟩,
    ⟨some 194, none, .bin .add 0 (.tmp 192) (.tmp 193)⟩,
    ⟨some 195, none, .mv (.tmp 4)⟩,
    ⟨some 196, none, .bin .neq 0 (.tmp 194) (.tmp 195)⟩,
    ⟨some 197, none, .mv (.tmp 196)⟩,
    ⟨some 198, some (197, false), .mv (.tmp 9)⟩,
    ⟨some 199, some (197, false), .bin .lss 0 (.tmp 198) (.const (.int .i64 0))⟩,
    ⟨some 200, none, .pick (.tmp 197) (.const (.bool true)) (.tmp 199)⟩])
  (.cond (.tmp 200) (.seq (.ops [⟨some 2, none, .mv (.const (.bool false))⟩])
   .ret)
  .skip))
 (.seq (.seq (.ops [⟨some 29, none, .mv (.const (.int .i64 0))⟩])
  (.block 0 (.loop (.seq (.seq (.ops [⟨some 201, none, .mv (.tmp 29)⟩,
       ⟨some 202, none, .mv (.tmp 5)⟩,
       ⟨some 203, none, .len false (.tmp 202)⟩,
       ⟨some 204, none, .bin .lss 0 (.tmp 201) (.tmp 203)⟩])
     (.cond (.tmp 204) .skip
     (.exit 0)))
    (.seq (.block 1 (.seq (.draw 36 [⟨some 207, none, .mv (.tmp 5)⟩,
        ⟨some 208, none, .mv (.tmp 29)⟩,
        ⟨some 209, none, .ia 1 (.tmp 207) (.tmp 208)⟩,
        ⟨some 210, none, .load false 1 (.tmp 209)⟩,
        ⟨some 211, none, .bin .lss 0 (.tmp 210) (.const (.int .i64 0))⟩,
        ⟨some 212, none, .mv (.tmp 211)⟩,
        ⟨some 213, some (212, false), .mv (.tmp 13)⟩,
        ⟨some 214, some (212, false), .mv (.tmp 213)⟩,
        ⟨some 215, some (214, true), .mv (.tmp 5)⟩,
        ⟨some 216, some (214, true), .mv (.tmp 29)⟩,
        ⟨some 217, some (214, true), .ia 1 (.tmp 215) (.tmp 216)⟩,
        ⟨some 218, some (214, true), .load false 1 (.tmp 217)⟩,
        ⟨some 219, some (214, true), .mv (.tmp 3)⟩,
        ⟨some 220, some (214, true), .mv (.tmp 29)⟩,
        ⟨some 221, some (214, true), .ia 5 (.tmp 219) (.tmp 220)⟩,
        ⟨some 222, some (214, true), .fa 4 (.tmp 221)⟩,
        ⟨some 223, some (214, true), .load false 1 (.tmp 222)⟩,
        ⟨some 224, some (214, true), .bin .lss 0 (.tmp 218) (.tmp 223)⟩,
        ⟨some 225, some (212, false), .pick (.tmp 214) (.tmp 224) (.const (.bool false))⟩,
        ⟨some 226, none, .pick (.tmp 212) (.const (.bool true)) (.tmp 225)⟩,
        ⟨some 227, none, .mv (.tmp 226)⟩,
        ⟨some 228, some (227, false), .mv (.tmp 13)⟩,
        ⟨some 229, some (227, false), .not (.tmp 228)⟩,
        ⟨some 230, some (227, false), .mv (.tmp 229)⟩,
        ⟨some 231, some (230, true), .mv (.tmp 5)⟩,
        ⟨some 232, some (230, true), .mv (.tmp 29)⟩,
        ⟨some 233, some (230, true), .ia 1 (.tmp 231) (.tmp 232)⟩,
        ⟨some 234, some (230, true), .load false 1 (.tmp 233)⟩,
        ⟨some 235, some (230, true), .mv (.tmp 3)⟩,
        ⟨some 236, some (230, true), .mv (.tmp 29)⟩,
        ⟨some 237, some (230, true), .ia 5 (.tmp 235) (.tmp 236)⟩,
        ⟨some 238, some (230, true), .fa 4 (.tmp 237)⟩,
        ⟨some 239, some (230, true), .load false 1 (.tmp 238)⟩,
        ⟨some 240, some (230, true), .bin .gtr 0 (.tmp 234) (.tmp 239)⟩,
        ⟨some 241, some (227, false), .pick (.tmp 230) (.tmp 240) (.const (.bool false))⟩,
        ⟨some 242, none, .pick (.tmp 227) (.const (.bool true)) (.tmp 241)⟩])
      (.cond (.tmp 242) (.seq (.ops [⟨some 2, none, .mv (.const (.bool false))⟩])
       .ret)
      .skip)))
    (.ops [⟨some 205, none, .mv (.tmp 29)⟩,
     ⟨some 206, none, .bin .add 0 (.tmp 205) (.const (.int .i64 1))⟩,
     ⟨some 29, none, .mv (.tmp 206)⟩]))))))
 (.seq (.seq (.ops [⟨some 243, none, .mv (.tmp 4)⟩,
    ⟨some 244, none, .bin .eql 0 (.tmp 243) (.const (.int .i64 1000000000))⟩])
  (.cond (.tmp 244) (.seq (.ops [⟨some 2, none, .mv (.const (.bool true))⟩])
   .ret)
  .skip))
 (.seq (.ops [⟨some 246, none, .mv (.tmp 3)⟩,
   ⟨some 247, none, .mv (.tmp 4)⟩,
   ⟨some 248, none, .bin .add 0 (.tmp 247) (.const (.int .i64 1))⟩,
   ⟨some 249, none, .call (.func 56) [(.tmp 246), (.tmp 248)]⟩,
   ⟨some 245, none, .mv (.tmp 249)⟩,
   ⟨some 250, none, .ext (.tmp 245) 0⟩,
   ⟨some 251, none, .ext (.tmp 245) 1⟩,
   ⟨some 30, none, .mv (.tmp 250)⟩,
   ⟨some 31, none, .mv (.tmp 251)⟩])
 (.seq (.seq (.ops [⟨some 32, none, .mv (.const (.int .i64 0))⟩])
  (.block 2 (.loop (.seq (.seq (.ops [⟨some 252, none, .mv (.tmp 32)⟩,
       ⟨some 253, none, .mv (.tmp 5)⟩,
       ⟨some 254, none, .len false (.tmp 253)⟩,
       ⟨some 255, none, .bin .lss 0 (.tmp 252) (.tmp 254)⟩])
     (.cond (.tmp 255) .skip
     (.exit 2)))
    (.seq (.block 3 (.seq (.draw 14 [⟨some 258, none, .mv (.tmp 31)⟩,
        ⟨some 259, none, .bin .neq 0 (.tmp 258) (.const (.int .i64 0))⟩,
        ⟨some 260, none, .mv (.tmp 259)⟩,
        ⟨some 261, some (260, false), .mv (.tmp 30)⟩,
        ⟨some 262, some (260, false), .mv (.tmp 32)⟩,
        ⟨some 263, some (260, false), .ia 1 (.tmp 261) (.tmp 262)⟩,
        ⟨some 264, some (260, false), .load false 1 (.tmp 263)⟩,
        ⟨some 265, some (260, false), .mv (.tmp 5)⟩,
        ⟨some 266, some (260, false), .mv (.tmp 32)⟩,
        ⟨some 267, some (260, false), .ia 1 (.tmp 265) (.tmp 266)⟩,
        ⟨some 268, some (260, false), .load false 1 (.tmp 267)⟩,
        ⟨some 269, some (260, false), .bin .sub 0 (.tmp 268) (.const (.int .i64 1))⟩,
        ⟨some 270, some (260, false), .bin .lss 0 (.tmp 264) (.tmp 269)⟩,
        ⟨some 271, none, .pick (.tmp 260) (.const (.bool true)) (.tmp 270)⟩])
      (.cond (.tmp 271) (.seq (.ops [⟨some 2, none, .mv (.const (.bool false))⟩])
       .ret)
      .skip)))
    (.ops [⟨some 256, none, .mv (.tmp 32)⟩,
     ⟨some 257, none, .bin .add 0 (.tmp 256) (.const (.int .i64 1))⟩,
     ⟨some 32, none, .mv (.tmp 257)⟩]))))))
 (.seq (.ops [⟨some 2, none, .mv (.const (.bool true))⟩])
 .ret)))))))))))))))))))))))
theorem C13_ok : Try.f13.body.bind (comp Try.prog) = some C13 := by kernel_rfl
theorem C13_res : compRs Try.prog Try.f13.results.toList = some [.tmp 2] := by kernel_rfl
theorem C13_nm : (Try.f13.name == "runtime.NumGoroutine") = false := by kernel_rfl
theorem C13_fn {a0 : AV} {H : Heap} {Q : AV → Heap → Prop} (h : vc Try.prog C13 (vcEnd [.tmp 2] Q) H [a0, .any, .any, .any, .any, .any, .any, .any, .any, .any, .any, .any, .any, .any, .any, .any, .any, .any, .any, .any, .any, .any, .any, .any, .any, .any, .any, .any, .any, .any, .any, .any, .any, .any, .any, .any, .any, .any, .any, .any, .any, .any, .any, .any, .any, .any, .any, .any, .any, .any, .any, .any, .any, .any, .any, .any, .any, .any, .any, .any, .any, .any, .any, .any, .any, .any, .any, .any, .any, .any, .any, .any, .any, .any, .any, .any, .any, .any, .any, .any, .any, .any, .any, .any, .any, .any, .any, .any, .any, .any, .any, .any, .any, .any, .any, .any, .any, .any, .any, .any, .any, .any, .any, .any, .any, .any, .any, .any, .any, .any, .any, .any, .any, .any, .any, .any, .any, .any, .any, .any, .any, .any, .any, .any, .any, .any, .any, .any, .any, .any, .any, .any, .any, .any, .any, .any, .any, .any, .any, .any, .any, .any, .any, .any, .any, .any, .any, .any, .any, .any, .any, .any, .any, .any, .any, .any, .any, .any, .any, .any, .any, .any, .any, .any, .any, .any, .any, .any, .any, .any, .any, .any, .any, .any, .any, .any, .any, .any, .any, .any, .any, .any, .any, .any, .any, .any, .any, .any, .any, .any, .any, .any, .any, .any, .any, .any, .any, .any, .any, .any, .any, .any, .any, .any, .any, .any, .any, .any, .any, .any, .any, .any, .any, .any, .any, .any, .any, .any, .any, .any, .any, .any, .any, .any, .any, .any, .any, .any, .any, .any, .any, .any, .any, .any, .any, .any, .any, .any, .any, .any, .any, .any, .any, .any, .any, .any, .any, .any, .any, .any, .any, .any, .any, .any, .any, .any, .any, .any, .any, .any, .any, .any, .any, .any, .any, .any, .any, .any, .any, .any, .any, .any]) : Runs Try.prog 13 [a0] H Q :=
  @fn_go Try.prog mixed 13 Try.f13 C13 [.tmp 2] Try.func13 C13_ok C13_res C13_nm 272 Try.ntmps13 [a0] [a0, .any, .any, .any, .any, .any, .any, .any, .any, .any, .any, .any, .any, .any, .any, .any, .any, .any, .any, .any, .any, .any, .any, .any, .any, .any, .any, .any, .any, .any, .any, .any, .any, .any, .any, .any, .any, .any, .any, .any, .any, .any, .any, .any, .any, .any, .any, .any, .any, .any, .any, .any, .any, .any, .any, .any, .any, .any, .any, .any, .any, .any, .any, .any, .any, .any, .any, .any, .any, .any, .any, .any, .any, .any, .any, .any, .any, .any, .any, .any, .any, .any, .any, .any, .any, .any, .any, .any, .any, .any, .any, .any, .any, .any, .any, .any, .any, .any, .any, .any, .any, .any, .any, .any, .any, .any, .any, .any, .any, .any, .any, .any, .any, .any, .any, .any, .any, .any, .any, .any, .any, .any, .any, .any, .any, .any, .any, .any, .any, .any, .any, .any, .any, .any, .any, .any, .any, .any, .any, .any, .any, .any, .any, .any, .any, .any, .any, .any, .any, .any, .any, .any, .any, .any, .any, .any, .any, .any, .any, .any, .any, .any, .any, .any, .any, .any, .any, .any, .any, .any, .any, .any, .any, .any, .any, .any, .any, .any, .any, .any, .any, .any, .any, .any, .any, .any, .any, .any, .any, .any, .any, .any, .any, .any, .any, .any, .any, .any, .any, .any, .any, .any, .any, .any, .any, .any, .any, .any, .any, .any, .any, .any, .any, .any, .any, .any, .any, .any, .any, .any, .any, .any, .any, .any, .any, .any, .any, .any, .any, .any, .any, .any, .any, .any, .any, .any, .any, .any, .any, .any, .any, .any, .any, .any, .any, .any, .any, .any, .any, .any, .any, .any, .any, .any, .any, .any, .any, .any, .any, .any, .any, .any, .any, .any, .any, .any, .any, .any, .any, .any, .any, .any] H Q h 271 (by kernel_rfl) (by kernel_rfl)

/-- spec.DrawAddClaim -/
def C69 : CC :=
 (.seq (.ops [⟨some 2, none, .mv (.const (.slice none 0 0))⟩,
   ⟨some 3, none, .alloc [.string ⟨#[]⟩, .int .i64 0, .int .i64 0, .int .i64 0, .int .i64 0]⟩])
 (.seq (.ops [⟨some 8, none, .mv (.tmp 0)⟩,
   ⟨some 9, none, .call (.func 110) [(.tmp 8)]⟩,
   ⟨some 4, none, .mv (.tmp 9)⟩])
 (.seq (.ops [⟨some 10, none, .mv (.tmp 4)⟩,
   ⟨some 11, none, .call (.func 122) [(.tmp 10)]⟩,
   ⟨some 5, none, .mv (.tmp 11)⟩])
 (.seq (.ops [⟨some 12, none, .mv (.tmp 4)⟩,
   ⟨some 13, none, .call (.func 134) [(.tmp 12)]⟩,
   ⟨some 6, none, .alloc [.string ⟨#[]⟩, .int .i64 0, .int .i64 0, .int .i64 0, .int .i64 0]⟩,
   ⟨none, none, .store 5 (.tmp 6) (.tmp 13)⟩])
 (.seq (.ops [⟨some 14, none, .mv (.tmp 5)⟩,
   ⟨some 15, none, .fa 0 (.tmp 6)⟩,
   ⟨some 16, none, .load false 1 (.tmp 15)⟩,
   ⟨some 17, none, .call (.func 125) [(.tmp 14), (.tmp 16)]⟩,
   ⟨some 7, none, .mv (.tmp 17)⟩])
 (.seq (.seq (.ops [⟨some 18, none, .mv (.tmp 7)⟩,
    ⟨some 19, none, .bin .geq 0 (.tmp 18) (.const (.int .i64 0))⟩,
    ⟨some 20, none, .mv (.tmp 19)⟩,
    ⟨some 21, some (20, true), .mv (.tmp 4)⟩,
    ⟨some 22, some (20, true), .call (.func 112) [(.tmp 21), (.const (.int .i64 2))]⟩,
    ⟨some 23, some (20, true), .bin .eql 0 (.tmp 22) (.const (.int .i64 0))⟩,
    ⟨some 24, none, .pick (.tmp 20) (.tmp 23) (.const (.bool false))⟩])
  (.cond (.tmp 24) (.seq (.ops [⟨some 25, none, .mv (.tmp 5)⟩,
     ⟨some 26, none, .mv (.tmp 7)⟩,
     ⟨some 27, none, .ia 5 (.tmp 25) (.tmp 26)⟩,
     ⟨some 28, none, .fa 3 (.tmp 27)⟩,
     ⟨some 29, none, .load false 1 (.tmp 28)⟩,
     ⟨some 30, none, .fa 3 (.tmp 6)⟩,
     ⟨none, none, .store 1 (.tmp 30) (.tmp 29)⟩])
   (.ops [⟨some 31, none, .mv (.tmp 5)⟩,
    ⟨some 32, none, .mv (.tmp 7)⟩,
    ⟨some 33, none, .ia 5 (.tmp 31) (.tmp 32)⟩,
    ⟨some 34, none, .fa 2 (.tmp 33)⟩,
    ⟨some 35, none, .load false 1 (.tmp 34)⟩,
    ⟨some 36, none, .fa 2 (.tmp 6)⟩,
    ⟨none, none, .store 1 (.tmp 36) (.tmp 35)⟩]))
  .skip))
 (.seq (.draw 3 [⟨some 37, none, .mv (.tmp 5)⟩,
   ⟨some 38, none, .load true 5 (.tmp 6)⟩,
   ⟨some 2, none, .mv (.tmp 37)⟩,
   ⟨none, none, .store 5 (.tmp 3) (.tmp 38)⟩])
 .ret)))))))
theorem C69_ok : Try.f69.body.bind (comp Try.prog) = some C69 := by kernel_rfl
theorem C69_res : compRs Try.prog Try.f69.results.toList = some [.tmp 2, .cell true 5 3] := by kernel_rfl
theorem C69_nm : (Try.f69.name == "runtime.NumGoroutine") = false := by kernel_rfl
theorem C69_fn {a0 : AV} {H : Heap} {Q : AV → Heap → Prop} (h : vc Try.prog C69 (vcEnd [.tmp 2, .cell true 5 3] Q) H [a0, .any, .any, .any, .any, .any, .any, .any, .any, .any, .any, .any, .any, .any, .any, .any, .any, .any, .any, .any, .any, .any, .any, .any, .any, .any, .any, .any, .any, .any, .any, .any, .any, .any, .any, .any, .any, .any, .any]) : Runs Try.prog 69 [a0] H Q :=
  @fn_go Try.prog mixed 69 Try.f69 C69 [.tmp 2, .cell true 5 3] Try.func69 C69_ok C69_res C69_nm 39 Try.ntmps69 [a0] [a0, .any, .any, .any, .any, .any, .any, .any, .any, .any, .any, .any, .any, .any, .any, .any, .any, .any, .any, .any, .any, .any, .any, .any, .any, .any, .any, .any, .any, .any, .any, .any, .any, .any, .any, .any, .any, .any, .any] H Q h 38 (by kernel_rfl) (by kernel_rfl)

/-- slices.BinarySearchFunc[[]impl.Claim,impl.Claim,impl.Claim] -/
def C154 : CC :=
 (.seq (.ops [⟨some 4, none, .box (.tmp 1)⟩,
   ⟨some 6, none, .mv (.const (.int .i64 0))⟩,
   ⟨some 7, none, .mv (.const (.bool false))⟩])
 (.seq (.ops [⟨some 12, none, .mv (.tmp 0)⟩,
   ⟨some 13, none, .len false (.tmp 12)⟩,
   ⟨some 8, none, .mv (.tmp 13)⟩])
 (.seq (.ops [⟨some 14, none, .mv (.tmp 8)⟩,
   ⟨some 9, none, .mv (.const (.int .i64 0))⟩,
   ⟨some 10, none, .mv (.tmp 14)⟩])
 (.seq (.block 0 (.loop (.seq (.seq (.ops [⟨some 15, none, .mv (.tmp 9)⟩,
       ⟨some 16, none, .mv (.tmp 10)⟩,
       ⟨some 17, none, .bin .lss 0 (.tmp 15) (.tmp 16)⟩])
     (.cond (.tmp 17) .skip
     (.exit 0)))
    (.block 1 (.seq (.ops [⟨some 18, none, .mv (.tmp 9)⟩,
       ⟨some 19, none, .mv (.tmp 10)⟩,
       ⟨some 20, none, .bin .add 0 (.tmp 18) (.tmp 19)⟩,
       ⟨some 21, none, .conv .u64 (.tmp 20)⟩,
       ⟨some 22, none, .bin .shr 0 (.tmp 21) (.const (.int .u64 1))⟩,
       ⟨some 23, none, .conv .i64 (.tmp 22)⟩,
       ⟨some 11, none, .mv (.tmp 23)⟩])
     (.seq (.draw 8 [⟨some 24, none, .mv (.tmp 2)⟩,
       ⟨some 25, none, .mv (.tmp 0)⟩,
       ⟨some 26, none, .mv (.tmp 11)⟩,
       ⟨some 27, none, .ia 5 (.tmp 25) (.tmp 26)⟩,
       ⟨some 28, none, .load true 5 (.tmp 27)⟩,
       ⟨some 29, none, .load true 5 (.tmp 4)⟩,
       ⟨some 30, none, .call (.tmp 24) [(.tmp 28), (.tmp 29)]⟩,
       ⟨some 31, none, .bin .lss 0 (.tmp 30) (.const (.int .i64 0))⟩])
     (.cond (.tmp 31) (.ops [⟨some 32, none, .mv (.tmp 11)⟩,
       ⟨some 33, none, .bin .add 0 (.tmp 32) (.const (.int .i64 1))⟩,
       ⟨some 9, none, .mv (.tmp 33)⟩])
     (.ops [⟨some 34, none, .mv (.tmp 11)⟩,
       ⟨some 10, none, .mv (.tmp 34)⟩]))))))))
 (.seq (.draw 15 [⟨some 35, none, .mv (.tmp 9)⟩,
   ⟨some 36, none, .mv (.tmp 9)⟩,
   ⟨some 37, none, .mv (.tmp 8)⟩,
   ⟨some 38, none, .bin .lss 0 (.tmp 36) (.tmp 37)⟩,
   ⟨some 39, none, .mv (.tmp 38)⟩,
   ⟨some 40, some (39, true), .mv (.tmp 2)⟩,
   ⟨some 41, some (39, true), .mv (.tmp 0)⟩,
   ⟨some 42, some (39, true), .mv (.tmp 9)⟩,
   ⟨some 43, some (39, true), .ia 5 (.tmp 41) (.tmp 42)⟩,
   ⟨some 44, some (39, true), .load true 5 (.tmp 43)⟩,
   ⟨some 45, some (39, true), .load true 5 (.tmp 4)⟩,
   ⟨some 46, some (39, true), .call (.tmp 40) [(.tmp 44), (.tmp 45)]⟩,
   ⟨some 47, some (39, true), .bin .eql 0 (.tmp 46) (.const (.int .i64 0))⟩,
   ⟨some 48, none, .pick (.tmp 39) (.tmp 47) (.const (.bool false))⟩,
   ⟨some 6, none, .mv (.tmp 35)⟩,
   ⟨some 7, none, .mv (.tmp 48)⟩])
 .ret)))))
theorem C154_ok : Try.f154.body.bind (comp Try.prog) = some C154 := by kernel_rfl
theorem C154_res : compRs Try.prog Try.f154.results.toList = some [.tmp 6, .tmp 7] := by kernel_rfl
theorem C154_nm : (Try.f154.name == "runtime.NumGoroutine") = false := by kernel_rfl
theorem C154_fn {a0 a1 a2 : AV} {H : Heap} {Q : AV → Heap → Prop} (h : vc Try.prog C154 (vcEnd [.tmp 6, .tmp 7] Q) H [a0, a1, a2, .any, .any, .any, .any, .any, .any, .any, .any, .any, .any, .any, .any, .any, .any, .any, .any, .any, .any, .any, .any, .any, .any, .any, .any, .any, .any, .any, .any, .any, .any, .any, .any, .any, .any, .any, .any, .any, .any, .any, .any, .any, .any, .any, .any, .any, .any]) : Runs Try.prog 154 [a0, a1, a2] H Q :=
  @fn_go Try.prog mixed 154 Try.f154 C154 [.tmp 6, .tmp 7] Try.func154 C154_ok C154_res C154_nm 49 Try.ntmps154 [a0, a1, a2] [a0, a1, a2, .any, .any, .any, .any, .any, .any, .any, .any, .any, .any, .any, .any, .any, .any, .any, .any, .any, .any, .any, .any, .any, .any, .any, .any, .any, .any, .any, .any, .any, .any, .any, .any, .any, .any, .any, .any, .any, .any, .any, .any, .any, .any, .any, .any, .any, .any] H Q h 46 (by kernel_rfl) (by kernel_rfl)

/-- impl.copyOf[impl.Claim] -/
def C155 : CC :=
 (.seq (.ops [⟨some 2, none, .mv (.const (.slice none 0 0))⟩])
 (.seq (.ops [⟨some 3, none, .lit 5 []⟩,
   ⟨some 4, none, .mv (.tmp 0)⟩,
   ⟨some 5, none, .app 5 48 (.tmp 3) (.tmp 4)⟩,
   ⟨some 2, none, .mv (.tmp 5)⟩])
 .ret))
theorem C155_ok : Try.f155.body.bind (comp Try.prog) = some C155 := by kernel_rfl
theorem C155_res : compRs Try.prog Try.f155.results.toList = some [.tmp 2] := by kernel_rfl
theorem C155_nm : (Try.f155.name == "runtime.NumGoroutine") = false := by kernel_rfl
theorem C155_fn {a0 : AV} {H : Heap} {Q : AV → Heap → Prop} (h : vc Try.prog C155 (vcEnd [.tmp 2] Q) H [a0, .any, .any, .any, .any, .any]) : Runs Try.prog 155 [a0] H Q :=
  @fn_go Try.prog mixed 155 Try.f155 C155 [.tmp 2] Try.func155 C155_ok C155_res C155_nm 6 Try.ntmps155 [a0] [a0, .any, .any, .any, .any, .any] H Q h 5 (by kernel_rfl) (by kernel_rfl)

/-- slices.Reverse[[]impl.Claim,impl.Claim] -/
def C171 : CC :=
 (.seq (.ops [⟨some 4, none, .mv (.tmp 0)⟩,
   ⟨some 5, none, .len false (.tmp 4)⟩,
   ⟨some 6, none, .bin .sub 0 (.tmp 5) (.const (.int .i64 1))⟩,
   ⟨some 2, none, .mv (.const (.int .i64 0))⟩,
   ⟨some 3, none, .mv (.tmp 6)⟩])
 (.block 0 (.loop (.seq (.seq (.ops [⟨some 7, none, .mv (.tmp 2)⟩,
      ⟨some 8, none, .mv (.tmp 3)⟩,
      ⟨some 9, none, .bin .lss 0 (.tmp 7) (.tmp 8)⟩])
    (.cond (.tmp 9) .skip
    (.exit 0)))
   (.seq (.block 1 (.loud 14 (.alt (.step ⟨some 20, none, .ia 5 (.tmp 18) (.tmp 19)⟩ (.alt (.step ⟨some 21, none, .load true 5 (.tmp 20)⟩ (.step ⟨some 25, none, .load true 5 (.tmp 24)⟩ (.step ⟨some 26, none, .ia 5 (.tmp 14) (.tmp 15)⟩ (.step ⟨none, none, .store 5 (.tmp 26) (.tmp 21)⟩ .leaf))))
      (.step ⟨some 25, none, .load true 5 (.tmp 24)⟩ (.step ⟨some 21, none, .load true 5 (.tmp 20)⟩ (.step ⟨some 26, none, .ia 5 (.tmp 14) (.tmp 15)⟩ (.step ⟨none, none, .store 5 (.tmp 26) (.tmp 21)⟩ .leaf))))))
      (.step ⟨some 25, none, .load true 5 (.tmp 24)⟩ (.step ⟨some 20, none, .ia 5 (.tmp 18) (.tmp 19)⟩ (.step ⟨some 21, none, .load true 5 (.tmp 20)⟩ (.step ⟨some 26, none, .ia 5 (.tmp 14) (.tmp 15)⟩ (.step ⟨none, none, .store 5 (.tmp 26) (.tmp 21)⟩ .leaf))))))
      [⟨some 14, none, .mv (.tmp 0)⟩, 
     ⟨some 15, none, .mv (.tmp 2)⟩, 
     ⟨some 16, none, .mv (.tmp 0)⟩, 
     ⟨some 17, none, .mv (.tmp 3)⟩, 
     ⟨some 18, none, .mv (.tmp 0)⟩, 
     ⟨some 19, none, .mv (.tmp 3)⟩, 
     ⟨none, none, .mv (.const undef)⟩, 
     ⟨none, none, .mv (.const undef)⟩, 
     ⟨some 22, none, .mv (.tmp 0)⟩, 
     ⟨some 23, none, .mv (.tmp 2)⟩, 
     ⟨some 24, none, .ia 5 (.tmp 22) (.tmp 23)⟩, 
     ⟨none, none, .mv (.const undef)⟩, 
     ⟨none, none, .mv (.const undef)⟩, 
     ⟨none, none, .mv (.const undef)⟩]
      [⟨some 27, none, .ia 5 (.tmp 16) (.tmp 17)⟩, ⟨none, none, .store 5 (.tmp 27) (.tmp 25)⟩]))
   (.ops [⟨some 10, none, .mv (.tmp 2)⟩,
    ⟨some 11, none, .bin .add 0 (.tmp 10) (.const (.int .i64 1))⟩,
    ⟨some 12, none, .mv (.tmp 3)⟩,
    ⟨some 13, none, .bin .sub 0 (.tmp 12) (.const (.int .i64 1))⟩,
    ⟨some 2, none, .mv (.tmp 11)⟩,
    ⟨some 3, none, .mv (.tmp 13)⟩]))))))
theorem C171_ok : Try.f171.body.bind (comp Try.prog) = some C171 := by kernel_rfl
theorem C171_res : compRs Try.prog Try.f171.results.toList = some [] := by kernel_rfl
theorem C171_nm : (Try.f171.name == "runtime.NumGoroutine") = false := by kernel_rfl
theorem C171_fn {a0 : AV} {H : Heap} {Q : AV → Heap → Prop} (h : vc Try.prog C171 (vcEnd [] Q) H [a0, .any, .any, .any, .any, .any, .any, .any, .any, .any, .any, .any, .any, .any, .any, .any, .any, .any, .any, .any, .any, .any, .any, .any, .any, .any, .any, .any]) : Runs Try.prog 171 [a0] H Q :=
  @fn_go Try.prog mixed 171 Try.f171 C171 [] Try.func171 C171_ok C171_res C171_nm 28 Try.ntmps171 [a0] [a0, .any, .any, .any, .any, .any, .any, .any, .any, .any, .any, .any, .any, .any, .any, .any, .any, .any, .any, .any, .any, .any, .any, .any, .any, .any, .any, .any] H Q h 27 (by kernel_rfl) (by kernel_rfl)

/-- slices.rotateLeft[impl.Claim] -/
def C170 : CC :=
 (.seq (.ops [⟨some 4, none, .mv (.tmp 0)⟩,
   ⟨some 5, none, .mv (.tmp 1)⟩,
   ⟨some 6, none, .slc 5 (.tmp 4) none (some (.tmp 5))⟩,
   ⟨some 7, none, .call (.func 171) [(.tmp 6)]⟩])
 (.seq (.ops [⟨some 8, none, .mv (.tmp 0)⟩,
   ⟨some 9, none, .mv (.tmp 1)⟩,
   ⟨some 10, none, .slc 5 (.tmp 8) (some (.tmp 9)) none⟩,
   ⟨some 11, none, .call (.func 171) [(.tmp 10)]⟩])
 (.ops [⟨some 12, none, .mv (.tmp 0)⟩,
  ⟨some 13, none, .call (.func 171) [(.tmp 12)]⟩])))
theorem C170_ok : Try.f170.body.bind (comp Try.prog) = some C170 := by kernel_rfl
theorem C170_res : compRs Try.prog Try.f170.results.toList = some [] := by kernel_rfl
theorem C170_nm : (Try.f170.name == "runtime.NumGoroutine") = false := by kernel_rfl
theorem C170_fn {a0 a1 : AV} {H : Heap} {Q : AV → Heap → Prop} (h : vc Try.prog C170 (vcEnd [] Q) H [a0, a1, .any, .any, .any, .any, .any, .any, .any, .any, .any, .any, .any, .any]) : Runs Try.prog 170 [a0, a1] H Q :=
  @fn_go Try.prog mixed 170 Try.f170 C170 [] Try.func170 C170_ok C170_res C170_nm 14 Try.ntmps170 [a0, a1] [a0, a1, .any, .any, .any, .any, .any, .any, .any, .any, .any, .any, .any, .any] H Q h 12 (by kernel_rfl) (by kernel_rfl)

/-- slices.rotateRight[impl.Claim] -/
def C167 : CC :=
 (.ops [⟨some 4, none, .mv (.tmp 0)⟩,
  ⟨some 5, none, .mv (.tmp 0)⟩,
  ⟨some 6, none, .len false (.tmp 5)⟩,
  ⟨some 7, none, .mv (.tmp 1)⟩,
  ⟨some 8, none, .bin .sub 0 (.tmp 6) (.tmp 7)⟩,
  ⟨some 9, none, .call (.func 170) [(.tmp 4), (.tmp 8)]⟩])
theorem C167_ok : Try.f167.body.bind (comp Try.prog) = some C167 := by kernel_rfl
theorem C167_res : compRs Try.prog Try.f167.results.toList = some [] := by kernel_rfl
theorem C167_nm : (Try.f167.name == "runtime.NumGoroutine") = false := by kernel_rfl
theorem C167_fn {a0 a1 : AV} {H : Heap} {Q : AV → Heap → Prop} (h : vc Try.prog C167 (vcEnd [] Q) H [a0, a1, .any, .any, .any, .any, .any, .any, .any, .any]) : Runs Try.prog 167 [a0, a1] H Q :=
  @fn_go Try.prog mixed 167 Try.f167 C167 [] Try.func167 C167_ok C167_res C167_nm 10 Try.ntmps167 [a0, a1] [a0, a1, .any, .any, .any, .any, .any, .any, .any, .any] H Q h 8 (by kernel_rfl) (by kernel_rfl)

/-- slices.Insert[[]impl.Claim,impl.Claim] -/
def C156 : CC :=
 (.seq (.ops [⟨some 6, none, .mv (.const (.slice none 0 0))⟩])
 (.seq (.ops [⟨some 10, none, .mv (.tmp 0)⟩,
   ⟨some 11, none, .mv (.tmp 1)⟩,
   ⟨some 12, none, .slc 5 (.tmp 10) (some (.tmp 11)) none⟩])
 (.seq (.ops [⟨some 13, none, .mv (.tmp 2)⟩,
   ⟨some 14, none, .len false (.tmp 13)⟩,
   ⟨some 7, none, .mv (.tmp 14)⟩])
 (.seq (.seq (.ops [⟨some 15, none, .mv (.tmp 7)⟩,
    ⟨some 16, none, .bin .eql 0 (.tmp 15) (.const (.int .i64 0))⟩])
  (.cond (.tmp 16) (.seq (.ops [⟨some 17, none, .mv (.tmp 0)⟩,
     ⟨some 6, none, .mv (.tmp 17)⟩])
   .ret)
  .skip))
 (.seq (.ops [⟨some 18, none, .mv (.tmp 0)⟩,
   ⟨some 19, none, .len false (.tmp 18)⟩,
   ⟨some 8, none, .mv (.tmp 19)⟩])
 (.seq (.seq (.ops [⟨some 20, none, .mv (.tmp 1)⟩,
    ⟨some 21, none, .mv (.tmp 8)⟩,
    ⟨some 22, none, .bin .eql 0 (.tmp 20) (.tmp 21)⟩])
  (.cond (.tmp 22) (.seq (.ops [⟨some 23, none, .mv (.tmp 0)⟩,
     ⟨some 24, none, .mv (.tmp 2)⟩,
     ⟨some 25, none, .app 5 48 (.tmp 23) (.tmp 24)⟩,
     ⟨some 6, none, .mv (.tmp 25)⟩])
   .ret)
  .skip))
 (.seq (.seq .dead
  (.cond (.tmp 31) (.seq .dead
   (.seq .dead
   (.seq .dead
   (.seq (.ops [⟨some 55, none, .mv (.tmp 9)⟩,
     ⟨some 6, none, .mv (.tmp 55)⟩])
   .ret))))
  .skip))
 (.seq (.ops [⟨some 56, none, .mv (.tmp 0)⟩,
   ⟨some 57, none, .mv (.tmp 8)⟩,
   ⟨some 58, none, .mv (.tmp 7)⟩,
   ⟨some 59, none, .bin .add 0 (.tmp 57) (.tmp 58)⟩,
   ⟨some 60, none, .slc 5 (.tmp 56) none (some (.tmp 59))⟩,
   ⟨some 0, none, .mv (.tmp 60)⟩])
 (.seq (.seq (.ops [⟨some 61, none, .mv (.tmp 2)⟩,
    ⟨some 62, none, .mv (.tmp 0)⟩,
    ⟨some 63, none, .mv (.tmp 1)⟩,
    ⟨some 64, none, .mv (.tmp 7)⟩,
    ⟨some 65, none, .bin .add 0 (.tmp 63) (.tmp 64)⟩,
    ⟨some 66, none, .slc 5 (.tmp 62) (some (.tmp 65)) none⟩,
    ⟨some 67, none, .call (.func 166) [(.tmp 61), (.tmp 66)]⟩,
    ⟨some 68, none, .not (.tmp 67)⟩])
  (.cond (.tmp 68) (.seq .dead
   (.seq .dead
   (.seq (.ops [⟨some 83, none, .mv (.tmp 0)⟩,
     ⟨some 6, none, .mv (.tmp 83)⟩])
   .ret)))
  .skip))
 (.seq .dead
 (.seq (.ops [⟨some 89, none, .mv (.tmp 0)⟩,
   ⟨some 90, none, .mv (.tmp 1)⟩,
   ⟨some 91, none, .slc 5 (.tmp 89) (some (.tmp 90)) none⟩,
   ⟨some 92, none, .mv (.tmp 7)⟩,
   ⟨some 93, none, .call (.func 167) [(.tmp 91), (.tmp 92)]⟩])
 (.seq (.ops [⟨some 94, none, .mv (.tmp 0)⟩,
   ⟨some 6, none, .mv (.tmp 94)⟩])
 .ret))))))))))))
theorem C156_ok : Try.f156.body.bind (comp Try.prog) = some C156 := by kernel_rfl
theorem C156_res : compRs Try.prog Try.f156.results.toList = some [.tmp 6] := by kernel_rfl
theorem C156_nm : (Try.f156.name == "runtime.NumGoroutine") = false := by kernel_rfl
theorem C156_fn {a0 a1 a2 : AV} {H : Heap} {Q : AV → Heap → Prop} (h : vc Try.prog C156 (vcEnd [.tmp 6] Q) H [a0, a1, a2, .any, .any, .any, .any, .any, .any, .any, .any, .any, .any, .any, .any, .any, .any, .any, .any, .any, .any, .any, .any, .any, .any, .any, .any, .any, .any, .any, .any, .any, .any, .any, .any, .any, .any, .any, .any, .any, .any, .any, .any, .any, .any, .any, .any, .any, .any, .any, .any, .any, .any, .any, .any, .any, .any, .any, .any, .any, .any, .any, .any, .any, .any, .any, .any, .any, .any, .any, .any, .any, .any, .any, .any, .any, .any, .any, .any, .any, .any, .any, .any, .any, .any, .any, .any, .any, .any, .any, .any, .any, .any, .any, .any]) : Runs Try.prog 156 [a0, a1, a2] H Q :=
  @fn_go Try.prog mixed 156 Try.f156 C156 [.tmp 6] Try.func156 C156_ok C156_res C156_nm 95 Try.ntmps156 [a0, a1, a2] [a0, a1, a2, .any, .any, .any, .any, .any, .any, .any, .any, .any, .any, .any, .any, .any, .any, .any, .any, .any, .any, .any, .any, .any, .any, .any, .any, .any, .any, .any, .any, .any, .any, .any, .any, .any, .any, .any, .any, .any, .any, .any, .any, .any, .any, .any, .any, .any, .any, .any, .any, .any, .any, .any, .any, .any, .any, .any, .any, .any, .any, .any, .any, .any, .any, .any, .any, .any, .any, .any, .any, .any, .any, .any, .any, .any, .any, .any, .any, .any, .any, .any, .any, .any, .any, .any, .any, .any, .any, .any, .any, .any, .any, .any, .any] H Q h 92 (by kernel_rfl) (by kernel_rfl)

end Go.Proofs.Ytbgnlnlgjmipfaa
