/- The code of the functions, in the form of our laws; each is the program's own, by the kernel. Written by a program of ours. -/
import Derived.Test.YtiomjlnojomneaaB0
import Derived.KernelRfl
namespace Go.Proofs.Ytiomjlnojomneaa
open Go.Abs

/-- impl.rising[impl.Claim] -/
def C167 : CC :=
 (.seq (.ops [⟨some 4, none, .mv (.const (.bool false))⟩])
 (.seq (.seq (.ops [⟨some 5, none, .mv (.const (.int .i64 1))⟩])
  (.block 0 (.loop (.seq (.seq (.ops [⟨some 6, none, .mv (.tmp 5)⟩,
       ⟨some 7, none, .mv (.tmp 0)⟩,
       ⟨some 8, none, .len false (.tmp 7)⟩,
       ⟨some 9, none, .bin .lss 0 (.tmp 6) (.tmp 8)⟩])
     (.cond (.tmp 9) .skip
     (.exit 0)))
    (.seq (.block 1 (.seq (.draw 12 [⟨some 12, none, .mv (.tmp 1)⟩,
        ⟨some 13, none, .mv (.tmp 0)⟩,
        ⟨some 14, none, .mv (.tmp 5)⟩,
        ⟨some 15, none, .bin .sub 0 (.tmp 14) (.const (.int .i64 1))⟩,
        ⟨some 16, none, .ia 5 (.tmp 13) (.tmp 15)⟩,
        ⟨some 17, none, .load true 5 (.tmp 16)⟩,
        ⟨some 18, none, .mv (.tmp 0)⟩,
        ⟨some 19, none, .mv (.tmp 5)⟩,
        ⟨some 20, none, .ia 5 (.tmp 18) (.tmp 19)⟩,
        ⟨some 21, none, .load true 5 (.tmp 20)⟩,
        ⟨some 22, none, .call (.tmp 12) [(.tmp 17), (.tmp 21)]⟩,
        ⟨some 23, none, .bin .geq 0 (.tmp 22) (.const (.int .i64 0))⟩])
      (.cond (.tmp 23) (.seq (.ops [⟨some 4, none, .mv (.const (.bool false))⟩])
       .ret)
      .skip)))
    (.ops [⟨some 10, none, .mv (.tmp 5)⟩,
     ⟨some 11, none, .bin .add 0 (.tmp 10) (.const (.int .i64 1))⟩,
     ⟨some 5, none, .mv (.tmp 11)⟩]))))))
 (.seq (.ops [⟨some 4, none, .mv (.const (.bool true))⟩])
 .ret)))
theorem C167_ok : Try.f167.body.bind (comp Try.prog) = some C167 := by kernel_rfl
theorem C167_res : compRs Try.prog Try.f167.results.toList = some [.tmp 4] := by kernel_rfl
theorem C167_nm : (Try.f167.name == "runtime.NumGoroutine") = false := by kernel_rfl
theorem C167_fn {a0 a1 : AV} {H : Heap} {Q : AV → Heap → Prop} (h : vc Try.prog C167 (vcEnd [.tmp 4] Q) H [a0, a1, .any, .any, .any, .any, .any, .any, .any, .any, .any, .any, .any, .any, .any, .any, .any, .any, .any, .any, .any, .any, .any, .any]) : Runs Try.prog 167 [a0, a1] H Q :=
  @fn_go Try.prog mixed 167 Try.f167 C167 [.tmp 4] Try.func167 C167_ok C167_res C167_nm 24 Try.ntmps167 [a0, a1] [a0, a1, .any, .any, .any, .any, .any, .any, .any, .any, .any, .any, .any, .any, .any, .any, .any, .any, .any, .any, .any, .any, .any, .any] H Q h 22 (by kernel_rfl) (by kernel_rfl)

/-- impl.compareClaims -/
def C168 : CC :=
 (.seq (.ops [⟨some 2, none, .box (.tmp 0)⟩,
   ⟨some 3, none, .box (.tmp 1)⟩,
   ⟨some 4, none, .mv (.const (.int .i64 0))⟩])
 (.seq (.ops [⟨some 5, none, .fa 0 (.tmp 2)⟩,
   ⟨some 6, none, .load false 1 (.tmp 5)⟩,
   ⟨some 7, none, .fa 0 (.tmp 3)⟩,
   ⟨some 8, none, .load false 1 (.tmp 7)⟩,
   ⟨some 9, none, .call (.func 132) [(.tmp 6), (.tmp 8)]⟩,
   ⟨some 4, none, .mv (.tmp 9)⟩])
 .ret))
theorem C168_ok : Try.f168.body.bind (comp Try.prog) = some C168 := by kernel_rfl
theorem C168_res : compRs Try.prog Try.f168.results.toList = some [.tmp 4] := by kernel_rfl
theorem C168_nm : (Try.f168.name == "runtime.NumGoroutine") = false := by kernel_rfl
theorem C168_fn {a0 a1 : AV} {H : Heap} {Q : AV → Heap → Prop} (h : vc Try.prog C168 (vcEnd [.tmp 4] Q) H [a0, a1, .any, .any, .any, .any, .any, .any, .any, .any]) : Runs Try.prog 168 [a0, a1] H Q :=
  @fn_go Try.prog mixed 168 Try.f168 C168 [.tmp 4] Try.func168 C168_ok C168_res C168_nm 10 Try.ntmps168 [a0, a1] [a0, a1, .any, .any, .any, .any, .any, .any, .any, .any] H Q h 8 (by kernel_rfl) (by kernel_rfl)

/-- impl.AreClaims -/
def C145 : CC :=
 (.seq (.ops [⟨some 2, none, .mv (.const (.bool false))⟩])
 (.seq (.ops [⟨some 3, none, .mv (.tmp 0)⟩,
   ⟨some 4, none, .len false (.tmp 3)⟩,
   ⟨some 5, none, .bin .leq 0 (.tmp 4) (.const (.int .i64 8))⟩,
   ⟨some 6, none, .mv (.tmp 5)⟩,
   ⟨some 7, some (6, true), .mv (.tmp 0)⟩,
   ⟨some 8, some (6, true), .call (.func 165) [(.tmp 7), (.func 166)]⟩,
   ⟨some 9, none, .pick (.tmp 6) (.tmp 8) (.const (.bool false))⟩,
   ⟨some 10, none, .mv (.tmp 9)⟩,
   ⟨some 11, some (10, true), .mv (.tmp 0)⟩,
   ⟨some 12, some (10, true), .call (.func 167) [(.tmp 11), (.func 168)]⟩,
   ⟨some 13, none, .pick (.tmp 10) (.tmp 12) (.const (.bool false))⟩,
   ⟨some 2, none, .mv (.tmp 13)⟩])
 .ret))
theorem C145_ok : Try.f145.body.bind (comp Try.prog) = some C145 := by kernel_rfl
theorem C145_res : compRs Try.prog Try.f145.results.toList = some [.tmp 2] := by kernel_rfl
theorem C145_nm : (Try.f145.name == "runtime.NumGoroutine") = false := by kernel_rfl
theorem C145_fn {a0 : AV} {H : Heap} {Q : AV → Heap → Prop} (h : vc Try.prog C145 (vcEnd [.tmp 2] Q) H [a0, .any, .any, .any, .any, .any, .any, .any, .any, .any, .any, .any, .any, .any]) : Runs Try.prog 145 [a0] H Q :=
  @fn_go Try.prog mixed 145 Try.f145 C145 [.tmp 2] Try.func145 C145_ok C145_res C145_nm 14 Try.ntmps145 [a0] [a0, .any, .any, .any, .any, .any, .any, .any, .any, .any, .any, .any, .any, .any] H Q h 13 (by kernel_rfl) (by kernel_rfl)

/-- impl.claimed -/
def C114 : CC :=
 (.seq (.ops [⟨some 4, none, .mv (.const (.int .i64 0))⟩])
 (.seq (.block 0 (.seq (.ops [⟨some 6, none, .mv (.tmp 0)⟩,
     ⟨some 7, none, .call (.func 145) [(.tmp 6)]⟩,
     ⟨some 8, none, .not (.tmp 7)⟩,
     ⟨some 5, none, .mv (.tmp 8)⟩])
   (.cond (.tmp 5) (.seq (.ops [⟨some 4, none, .mv (.const (.int .i64 1))⟩])
    .ret)
   (.seq (.ops [⟨some 10, none, .mv (.tmp 1)⟩,
      ⟨some 11, none, .call (.func 89) [(.tmp 10)]⟩,
      ⟨some 12, none, .not (.tmp 11)⟩,
      ⟨some 9, none, .mv (.tmp 12)⟩])
    (.cond (.tmp 9) (.seq (.ops [⟨some 4, none, .mv (.const (.int .i64 2))⟩])
     .ret)
    .skip)))))
 (.seq (.ops [⟨some 4, none, .mv (.const (.int .i64 0))⟩])
 .ret)))
theorem C114_ok : Try.f114.body.bind (comp Try.prog) = some C114 := by kernel_rfl
theorem C114_res : compRs Try.prog Try.f114.results.toList = some [.tmp 4] := by kernel_rfl
theorem C114_nm : (Try.f114.name == "runtime.NumGoroutine") = false := by kernel_rfl
theorem C114_fn {a0 a1 : AV} {H : Heap} {Q : AV → Heap → Prop} (h : vc Try.prog C114 (vcEnd [.tmp 4] Q) H [a0, a1, .any, .any, .any, .any, .any, .any, .any, .any, .any, .any, .any]) : Runs Try.prog 114 [a0, a1] H Q :=
  @fn_go Try.prog mixed 114 Try.f114 C114 [.tmp 4] Try.func114 C114_ok C114_res C114_nm 13 Try.ntmps114 [a0, a1] [a0, a1, .any, .any, .any, .any, .any, .any, .any, .any, .any, .any, .any] H Q h 11 (by kernel_rfl) (by kernel_rfl)

/-- impl.sum -/
def C115 : CC :=
 (.seq (.ops [⟨some 2, none, .mv (.const (.int .i64 0))⟩])
 (.seq (.ops [⟨some 3, none, .mv (.const (.int .i64 0))⟩])
 (.seq (.seq (.ops [⟨some 6, none, .mv (.tmp 0)⟩,
    ⟨some 7, none, .len false (.tmp 6)⟩,
    ⟨some 8, none, .mv (.const (.int .i64 0))⟩])
  (.block 0 (.loop (.seq (.ops [⟨some 9, none, .bin .lss 0 (.tmp 8) (.tmp 7)⟩])
    (.seq (.cond (.tmp 9) .skip
     (.exit 0))
    (.seq (.block 1 (.seq (.ops [⟨some 10, none, .ia 1 (.tmp 6) (.tmp 8)⟩,
        ⟨some 11, none, .load false 1 (.tmp 10)⟩,
        ⟨some 5, none, .mv (.tmp 11)⟩])
      (.ops [⟨some 12, none, .mv (.tmp 3)⟩,
       ⟨some 13, none, .mv (.tmp 5)⟩,
       ⟨some 14, none, .bin .add 0 (.tmp 12) (.tmp 13)⟩,
       ⟨some 3, none, .mv (.tmp 14)⟩])))
    (.ops [⟨some 15, none, .bin .add 0 (.tmp 8) (.const (.int .i64 1))⟩,
     ⟨some 8, none, .mv (.tmp 15)⟩])))))))
 (.seq (.ops [⟨some 16, none, .mv (.tmp 3)⟩,
   ⟨some 2, none, .mv (.tmp 16)⟩])
 .ret))))
theorem C115_ok : Try.f115.body.bind (comp Try.prog) = some C115 := by kernel_rfl
theorem C115_res : compRs Try.prog Try.f115.results.toList = some [.tmp 2] := by kernel_rfl
theorem C115_nm : (Try.f115.name == "runtime.NumGoroutine") = false := by kernel_rfl
theorem C115_fn {a0 : AV} {H : Heap} {Q : AV → Heap → Prop} (h : vc Try.prog C115 (vcEnd [.tmp 2] Q) H [a0, .any, .any, .any, .any, .any, .any, .any, .any, .any, .any, .any, .any, .any, .any, .any, .any]) : Runs Try.prog 115 [a0] H Q :=
  @fn_go Try.prog mixed 115 Try.f115 C115 [.tmp 2] Try.func115 C115_ok C115_res C115_nm 17 Try.ntmps115 [a0] [a0, .any, .any, .any, .any, .any, .any, .any, .any, .any, .any, .any, .any, .any, .any, .any, .any] H Q h 16 (by kernel_rfl) (by kernel_rfl)

/-- impl.costsOf -/
def C116 : CC :=
 (.seq (.ops [⟨some 2, none, .mv (.const (.slice none 0 0))⟩])
 (.seq (.ops [⟨some 6, none, .lit 1 []⟩,
   ⟨some 3, none, .mv (.tmp 6)⟩])
 (.seq (.seq (.ops [⟨some 7, none, .mv (.tmp 0)⟩,
    ⟨some 8, none, .len false (.tmp 7)⟩,
    ⟨some 9, none, .mv (.const (.int .i64 0))⟩])
  (.block 0 (.loop (.seq (.ops [⟨some 10, none, .bin .lss 0 (.tmp 9) (.tmp 8)⟩])
    (.seq (.cond (.tmp 10) .skip
     (.exit 0))
    (.seq (.block 1 (.seq (.ops [⟨some 11, none, .ia 5 (.tmp 7) (.tmp 9)⟩,
        ⟨some 12, none, .load true 5 (.tmp 11)⟩,
        ⟨some 5, none, .alloc [.string ⟨#[]⟩, .int .i64 0, .int .i64 0, .int .i64 0, .int .i64 0]⟩,
        ⟨none, none, .store 5 (.tmp 5) (.tmp 12)⟩])
      (.ops [⟨some 13, none, .mv (.tmp 3)⟩,
       ⟨some 14, none, .fa 4 (.tmp 5)⟩,
       ⟨some 15, none, .load false 1 (.tmp 14)⟩,
       ⟨some 16, none, .lit 1 [(.tmp 15)]⟩,
       ⟨some 17, none, .app 1 8 (.tmp 13) (.tmp 16)⟩,
       ⟨some 3, none, .mv (.tmp 17)⟩])))
    (.ops [⟨some 18, none, .bin .add 0 (.tmp 9) (.const (.int .i64 1))⟩,
     ⟨some 9, none, .mv (.tmp 18)⟩])))))))
 (.seq (.ops [⟨some 19, none, .mv (.tmp 3)⟩,
   ⟨some 2, none, .mv (.tmp 19)⟩])
 .ret))))
theorem C116_ok : Try.f116.body.bind (comp Try.prog) = some C116 := by kernel_rfl
theorem C116_res : compRs Try.prog Try.f116.results.toList = some [.tmp 2] := by kernel_rfl
theorem C116_nm : (Try.f116.name == "runtime.NumGoroutine") = false := by kernel_rfl
theorem C116_fn {a0 : AV} {H : Heap} {Q : AV → Heap → Prop} (h : vc Try.prog C116 (vcEnd [.tmp 2] Q) H [a0, .any, .any, .any, .any, .any, .any, .any, .any, .any, .any, .any, .any, .any, .any, .any, .any, .any, .any, .any]) : Runs Try.prog 116 [a0] H Q :=
  @fn_go Try.prog mixed 116 Try.f116 C116 [.tmp 2] Try.func116 C116_ok C116_res C116_nm 20 Try.ntmps116 [a0] [a0, .any, .any, .any, .any, .any, .any, .any, .any, .any, .any, .any, .any, .any, .any, .any, .any, .any, .any, .any] H Q h 19 (by kernel_rfl) (by kernel_rfl)

/-- (impl.Claim).merit -/
def C146 : CC :=
 (.seq (.ops [⟨some 1, none, .box (.tmp 0)⟩,
   ⟨some 2, none, .mv (.const (.int .i64 0))⟩])
 (.seq (.ops [⟨some 3, none, .fa 1 (.tmp 1)⟩,
   ⟨some 4, none, .load false 1 (.tmp 3)⟩,
   ⟨some 5, none, .fa 2 (.tmp 1)⟩,
   ⟨some 6, none, .load false 1 (.tmp 5)⟩,
   ⟨some 7, none, .bin .mul 0 (.tmp 4) (.tmp 6)⟩,
   ⟨some 8, none, .fa 3 (.tmp 1)⟩,
   ⟨some 9, none, .load false 1 (.tmp 8)⟩,
   ⟨some 10, none, .bin .mul 0 (.tmp 7) (.tmp 9)⟩,
   ⟨some 2, none, .mv (.tmp 10)⟩])
 .ret))
theorem C146_ok : Try.f146.body.bind (comp Try.prog) = some C146 := by kernel_rfl
theorem C146_res : compRs Try.prog Try.f146.results.toList = some [.tmp 2] := by kernel_rfl
theorem C146_nm : (Try.f146.name == "runtime.NumGoroutine") = false := by kernel_rfl
theorem C146_fn {a0 : AV} {H : Heap} {Q : AV → Heap → Prop} (h : vc Try.prog C146 (vcEnd [.tmp 2] Q) H [a0, .any, .any, .any, .any, .any, .any, .any, .any, .any, .any]) : Runs Try.prog 146 [a0] H Q :=
  @fn_go Try.prog mixed 146 Try.f146 C146 [.tmp 2] Try.func146 C146_ok C146_res C146_nm 11 Try.ntmps146 [a0] [a0, .any, .any, .any, .any, .any, .any, .any, .any, .any, .any] H Q h 10 (by kernel_rfl) (by kernel_rfl)

/-- impl.meritsOf -/
def C117 : CC :=
 (.seq (.ops [⟨some 2, none, .mv (.const (.slice none 0 0))⟩])
 (.seq (.ops [⟨some 6, none, .lit 1 []⟩,
   ⟨some 3, none, .mv (.tmp 6)⟩])
 (.seq (.seq (.ops [⟨some 7, none, .mv (.tmp 0)⟩,
    ⟨some 8, none, .len false (.tmp 7)⟩,
    ⟨some 9, none, .mv (.const (.int .i64 0))⟩])
  (.block 0 (.loop (.seq (.ops [⟨some 10, none, .bin .lss 0 (.tmp 9) (.tmp 8)⟩])
    (.seq (.cond (.tmp 10) .skip
     (.exit 0))
    (.seq (.block 1 (.seq (.ops [⟨some 11, none, .ia 5 (.tmp 7) (.tmp 9)⟩,
        ⟨some 12, none, .load true 5 (.tmp 11)⟩,
        ⟨some 5, none, .alloc [.string ⟨#[]⟩, .int .i64 0, .int .i64 0, .int .i64 0, .int .i64 0]⟩,
        ⟨none, none, .store 5 (.tmp 5) (.tmp 12)⟩])
      (.ops [⟨some 13, none, .mv (.tmp 3)⟩,
       ⟨some 14, none, .load true 5 (.tmp 5)⟩,
       ⟨some 15, none, .call (.func 146) [(.tmp 14)]⟩,
       ⟨some 16, none, .lit 1 [(.tmp 15)]⟩,
       ⟨some 17, none, .app 1 8 (.tmp 13) (.tmp 16)⟩,
       ⟨some 3, none, .mv (.tmp 17)⟩])))
    (.ops [⟨some 18, none, .bin .add 0 (.tmp 9) (.const (.int .i64 1))⟩,
     ⟨some 9, none, .mv (.tmp 18)⟩])))))))
 (.seq (.ops [⟨some 19, none, .mv (.tmp 3)⟩,
   ⟨some 2, none, .mv (.tmp 19)⟩])
 .ret))))
theorem C117_ok : Try.f117.body.bind (comp Try.prog) = some C117 := by kernel_rfl
theorem C117_res : compRs Try.prog Try.f117.results.toList = some [.tmp 2] := by kernel_rfl
theorem C117_nm : (Try.f117.name == "runtime.NumGoroutine") = false := by kernel_rfl
theorem C117_fn {a0 : AV} {H : Heap} {Q : AV → Heap → Prop} (h : vc Try.prog C117 (vcEnd [.tmp 2] Q) H [a0, .any, .any, .any, .any, .any, .any, .any, .any, .any, .any, .any, .any, .any, .any, .any, .any, .any, .any, .any]) : Runs Try.prog 117 [a0] H Q :=
  @fn_go Try.prog mixed 117 Try.f117 C117 [.tmp 2] Try.func117 C117_ok C117_res C117_nm 20 Try.ntmps117 [a0] [a0, .any, .any, .any, .any, .any, .any, .any, .any, .any, .any, .any, .any, .any, .any, .any, .any, .any, .any, .any] H Q h 19 (by kernel_rfl) (by kernel_rfl)

/-- impl.PointsFor -/
def C50 : CC :=
 (.seq (.ops [⟨some 6, none, .mv (.const (.int .i64 0))⟩,
   ⟨some 7, none, .mv (.const (.int .i64 0))⟩])
 (.seq (.seq (.ops [⟨some 11, none, .mv (.tmp 0)⟩,
    ⟨some 12, none, .mv (.tmp 1)⟩,
    ⟨some 13, none, .call (.func 114) [(.tmp 11), (.tmp 12)]⟩,
    ⟨some 8, none, .mv (.tmp 13)⟩])
  (.seq (.ops [⟨some 14, none, .mv (.tmp 8)⟩,
    ⟨some 15, none, .bin .neq 0 (.tmp 14) (.const (.int .i64 0))⟩])
  (.cond (.tmp 15) (.seq (.ops [⟨some 16, none, .mv (.tmp 8)⟩,
     ⟨some 6, none, .mv (.const (.int .i64 0))⟩,
     ⟨some 7, none, .mv (.tmp 16)⟩])
   .ret)
  .skip)))
 (.seq (.seq (.ops [⟨some 17, none, .mv (.tmp 2)⟩,
    ⟨some 18, none, .call (.func 89) [(.tmp 17)]⟩,
    ⟨some 19, none, .not (.tmp 18)⟩])
  (.cond (.tmp 19) (.seq (.ops [⟨some 6, none, .mv (.const (.int .i64 0))⟩,
     ⟨some 7, none, .mv (.const (.int .i64 2))⟩])
   .ret)
  .skip))
 (.seq (.ops [⟨some 20, none, .mv (.tmp 0)⟩,
   ⟨some 21, none, .call (.func 116) [(.tmp 20)]⟩,
   ⟨some 22, none, .call (.func 115) [(.tmp 21)]⟩,
   ⟨some 9, none, .mv (.tmp 22)⟩])
 (.seq (.seq (.ops [⟨some 23, none, .mv (.tmp 0)⟩,
    ⟨some 24, none, .call (.func 117) [(.tmp 23)]⟩,
    ⟨some 25, none, .call (.func 115) [(.tmp 24)]⟩,
    ⟨some 26, none, .bin .gtr 0 (.tmp 25) (.const (.int .i64 0))⟩])
  (.cond (.tmp 26) (.ops [⟨some 9, none, .mv (.const (.int .i64 1000000000))⟩])
  .skip))
 (.seq (.seq (.ops [⟨some 10, none, .mv (.const (.int .i64 0))⟩])
  (.block 0 (.loop (.seq (.seq (.ops [⟨some 27, none, .mv (.tmp 10)⟩,
       ⟨some 28, none, .bin .leq 0 (.tmp 27) (.const (.int .i64 10000))⟩])
     (.cond (.tmp 28) .skip
     (.exit 0)))
    (.seq (.block 1 (.seq (.ops [⟨some 31, none, .mv (.tmp 1)⟩,
        ⟨some 32, none, .mv (.tmp 10)⟩,
        ⟨some 33, none, .bin .mul 0 (.tmp 31) (.tmp 32)⟩,
        ⟨some 34, none, .bin .quo 0 (.tmp 33) (.const (.int .i64 10000))⟩,
        ⟨some 35, none, .mv (.tmp 9)⟩,
        ⟨some 36, none, .mn (.tmp 34) (.tmp 35)⟩,
        ⟨some 37, none, .mv (.tmp 2)⟩,
        ⟨some 38, none, .bin .geq 0 (.tmp 36) (.tmp 37)⟩])
      (.cond (.tmp 38) (.seq (.ops [⟨some 39, none, .mv (.tmp 10)⟩,
         ⟨some 6, none, .mv (.tmp 39)⟩,
         ⟨some 7, none, .mv (.const (.int .i64 0))⟩])
       .ret)
      .skip)))
    (.ops [⟨some 29, none, .mv (.tmp 10)⟩,
     ⟨some 30, none, .bin .add 0 (.tmp 29) (.const (.int .i64 1))⟩,
     ⟨some 10, none, .mv (.tmp 30)⟩]))))))
 (.seq (.ops [⟨some 6, none, .mv (.const (.int .i64 0))⟩,
   ⟨some 7, none, .mv (.const (.int .i64 4))⟩])
 .ret)))))))
theorem C50_ok : Try.f50.body.bind (comp Try.prog) = some C50 := by kernel_rfl
theorem C50_res : compRs Try.prog Try.f50.results.toList = some [.tmp 6, .tmp 7] := by kernel_rfl
theorem C50_nm : (Try.f50.name == "runtime.NumGoroutine") = false := by kernel_rfl
theorem C50_fn {a0 a1 a2 : AV} {H : Heap} {Q : AV → Heap → Prop} (h : vc Try.prog C50 (vcEnd [.tmp 6, .tmp 7] Q) H [a0, a1, a2, .any, .any, .any, .any, .any, .any, .any, .any, .any, .any, .any, .any, .any, .any, .any, .any, .any, .any, .any, .any, .any, .any, .any, .any, .any, .any, .any, .any, .any, .any, .any, .any, .any, .any, .any, .any, .any]) : Runs Try.prog 50 [a0, a1, a2] H Q :=
  @fn_go Try.prog mixed 50 Try.f50 C50 [.tmp 6, .tmp 7] Try.func50 C50_ok C50_res C50_nm 40 Try.ntmps50 [a0, a1, a2] [a0, a1, a2, .any, .any, .any, .any, .any, .any, .any, .any, .any, .any, .any, .any, .any, .any, .any, .any, .any, .any, .any, .any, .any, .any, .any, .any, .any, .any, .any, .any, .any, .any, .any, .any, .any, .any, .any, .any, .any] H Q h 37 (by kernel_rfl) (by kernel_rfl)

/-- laws.eqClaim -/
def C118 : CC :=
 (.seq (.ops [⟨some 2, none, .box (.tmp 0)⟩,
   ⟨some 3, none, .box (.tmp 1)⟩,
   ⟨some 4, none, .mv (.const (.bool false))⟩])
 (.seq (.seq (.ops [⟨some 5, none, .fa 0 (.tmp 2)⟩,
    ⟨some 6, none, .load false 1 (.tmp 5)⟩,
    ⟨some 7, none, .fa 0 (.tmp 3)⟩,
    ⟨some 8, none, .load false 1 (.tmp 7)⟩,
    ⟨some 9, none, .bin .neq 0 (.tmp 6) (.tmp 8)⟩])
  (.cond (.tmp 9) (.seq (.ops [⟨some 4, none, .mv (.const (.bool false))⟩])
   .ret)
  .skip))
 (.seq (.seq (.ops [⟨some 10, none, .fa 1 (.tmp 2)⟩,
    ⟨some 11, none, .load false 1 (.tmp 10)⟩,
    ⟨some 12, none, .fa 1 (.tmp 3)⟩,
    ⟨some 13, none, .load false 1 (.tmp 12)⟩,
    ⟨some 14, none, .bin .neq 0 (.tmp 11) (.tmp 13)⟩])
  (.cond (.tmp 14) (.seq (.ops [⟨some 4, none, .mv (.const (.bool false))⟩])
   .ret)
  .skip))
 (.seq (.seq (.ops [⟨some 15, none, .fa 2 (.tmp 2)⟩,
    ⟨some 16, none, .load false 1 (.tmp 15)⟩,
    ⟨some 17, none, .fa 2 (.tmp 3)⟩,
    ⟨some 18, none, .load false 1 (.tmp 17)⟩,
    ⟨some 19, none, .bin .neq 0 (.tmp 16) (.tmp 18)⟩])
  (.cond (.tmp 19) (.seq (.ops [⟨some 4, none, .mv (.const (.bool false))⟩])
   .ret)
  .skip))
 (.seq (.seq (.ops [⟨some 20, none, .fa 3 (.tmp 2)⟩,
    ⟨some 21, none, .load false 1 (.tmp 20)⟩,
    ⟨some 22, none, .fa 3 (.tmp 3)⟩,
    ⟨some 23, none, .load false 1 (.tmp 22)⟩,
    ⟨some 24, none, .bin .neq 0 (.tmp 21) (.tmp 23)⟩])
  (.cond (.tmp 24) (.seq (.ops [⟨some 4, none, .mv (.const (.bool false))⟩])
   .ret)
  .skip))
 (.seq (.seq (.ops [⟨some 25, none, .fa 4 (.tmp 2)⟩,
    ⟨some 26, none, .load false 1 (.tmp 25)⟩,
    ⟨some 27, none, .fa 4 (.tmp 3)⟩,
    ⟨some 28, none, .load false 1 (.tmp 27)⟩,
    ⟨some 29, none, .bin .neq 0 (.tmp 26) (.tmp 28)⟩])
  (.cond (.tmp 29) (.seq (.ops [⟨some 4, none, .mv (.const (.bool false))⟩])
   .ret)
  .skip))
 (.seq (.ops [⟨some 4, none, .mv (.const (.bool true))⟩])
 .ret)))))))
theorem C118_ok : Try.f118.body.bind (comp Try.prog) = some C118 := by kernel_rfl
theorem C118_res : compRs Try.prog Try.f118.results.toList = some [.tmp 4] := by kernel_rfl
theorem C118_nm : (Try.f118.name == "runtime.NumGoroutine") = false := by kernel_rfl
theorem C118_fn {a0 a1 : AV} {H : Heap} {Q : AV → Heap → Prop} (h : vc Try.prog C118 (vcEnd [.tmp 4] Q) H [a0, a1, .any, .any, .any, .any, .any, .any, .any, .any, .any, .any, .any, .any, .any, .any, .any, .any, .any, .any, .any, .any, .any, .any, .any, .any, .any, .any, .any, .any]) : Runs Try.prog 118 [a0, a1] H Q :=
  @fn_go Try.prog mixed 118 Try.f118 C118 [.tmp 4] Try.func118 C118_ok C118_res C118_nm 30 Try.ntmps118 [a0, a1] [a0, a1, .any, .any, .any, .any, .any, .any, .any, .any, .any, .any, .any, .any, .any, .any, .any, .any, .any, .any, .any, .any, .any, .any, .any, .any, .any, .any, .any, .any] H Q h 28 (by kernel_rfl) (by kernel_rfl)

/-- laws.eqClaimS -/
def C51 : CC :=
 (.seq (.ops [⟨some 4, none, .mv (.const (.bool false))⟩])
 (.seq (.seq (.ops [⟨some 6, none, .mv (.tmp 0)⟩,
    ⟨some 7, none, .len false (.tmp 6)⟩,
    ⟨some 8, none, .mv (.tmp 1)⟩,
    ⟨some 9, none, .len false (.tmp 8)⟩,
    ⟨some 10, none, .bin .neq 0 (.tmp 7) (.tmp 9)⟩])
  (.cond (.tmp 10) (.seq (.ops [⟨some 4, none, .mv (.const (.bool false))⟩])
   .ret)
  .skip))
 (.seq (.seq (.ops [⟨some 5, none, .mv (.const (.int .i64 0))⟩])
  (.block 0 (.loop (.seq (.seq (.ops [⟨some 11, none, .mv (.tmp 5)⟩,
       ⟨some 12, none, .mv (.tmp 0)⟩,
       ⟨some 13, none, .len false (.tmp 12)⟩,
       ⟨some 14, none, .bin .lss 0 (.tmp 11) (.tmp 13)⟩])
     (.cond (.tmp 14) .skip
     (.exit 0)))
    (.seq (.block 1 (.seq (.draw 10 [⟨some 17, none, .mv (.tmp 0)⟩,
        ⟨some 18, none, .mv (.tmp 5)⟩,
        ⟨some 19, none, .ia 5 (.tmp 17) (.tmp 18)⟩,
        ⟨some 20, none, .load true 5 (.tmp 19)⟩,
        ⟨some 21, none, .mv (.tmp 1)⟩,
        ⟨some 22, none, .mv (.tmp 5)⟩,
        ⟨some 23, none, .ia 5 (.tmp 21) (.tmp 22)⟩,
        ⟨some 24, none, .load true 5 (.tmp 23)⟩,
        ⟨some 25, none, .call (.func 118) [(.tmp 20), (.tmp 24)]⟩,
        ⟨some 26, none, .not (.tmp 25)⟩])
      (.cond (.tmp 26) (.seq (.ops [⟨some 4, none, .mv (.const (.bool false))⟩])
       .ret)
      .skip)))
    (.ops [⟨some 15, none, .mv (.tmp 5)⟩,
     ⟨some 16, none, .bin .add 0 (.tmp 15) (.const (.int .i64 1))⟩,
     ⟨some 5, none, .mv (.tmp 16)⟩]))))))
 (.seq (.ops [⟨some 4, none, .mv (.const (.bool true))⟩])
 .ret))))
theorem C51_ok : Try.f51.body.bind (comp Try.prog) = some C51 := by kernel_rfl
theorem C51_res : compRs Try.prog Try.f51.results.toList = some [.tmp 4] := by kernel_rfl
theorem C51_nm : (Try.f51.name == "runtime.NumGoroutine") = false := by kernel_rfl
theorem C51_fn {a0 a1 : AV} {H : Heap} {Q : AV → Heap → Prop} (h : vc Try.prog C51 (vcEnd [.tmp 4] Q) H [a0, a1, .any, .any, .any, .any, .any, .any, .any, .any, .any, .any, .any, .any, .any, .any, .any, .any, .any, .any, .any, .any, .any, .any, .any, .any, .any]) : Runs Try.prog 51 [a0, a1] H Q :=
  @fn_go Try.prog mixed 51 Try.f51 C51 [.tmp 4] Try.func51 C51_ok C51_res C51_nm 27 Try.ntmps51 [a0, a1] [a0, a1, .any, .any, .any, .any, .any, .any, .any, .any, .any, .any, .any, .any, .any, .any, .any, .any, .any, .any, .any, .any, .any, .any, .any, .any, .any] H Q h 25 (by kernel_rfl) (by kernel_rfl)

/-- laws.FnExactPointsFor -/
def C11 : CC :=
 (.seq (.ops [⟨some 6, none, .mv (.const (.bool false))⟩])
 (.seq (.ops [⟨some 7, none, .mv (.const (.int .i64 1048576))⟩])
 (.seq (.ops [⟨some 13, none, .mv (.tmp 0)⟩,
   ⟨some 14, none, .mv (.tmp 7)⟩,
   ⟨some 15, none, .call (.func 47) [(.tmp 13), (.tmp 14)]⟩,
   ⟨some 7, none, .mv (.tmp 15)⟩])
 (.seq (.seq (.ops [⟨some 16, none, .mv (.tmp 7)⟩,
    ⟨some 17, none, .bin .lss 0 (.tmp 16) (.const (.int .i64 0))⟩])
  (.cond (.tmp 17) (.seq (.ops [⟨some 6, none, .mv (.const (.bool true))⟩])
   .ret)
  .skip))
 (.seq (.ops [⟨some 19, none, .mv (.tmp 0)⟩,
   ⟨some 20, none, .call (.func 49) [(.tmp 19)]⟩,
   ⟨some 21, none, .mv (.tmp 1)⟩,
   ⟨some 22, none, .mv (.tmp 2)⟩,
   ⟨some 23, none, .call (.func 48) [(.tmp 20), (.tmp 21), (.tmp 22)]⟩,
   ⟨some 18, none, .mv (.tmp 23)⟩,
   ⟨some 24, none, .ext (.tmp 18) 0⟩,
   ⟨some 25, none, .ext (.tmp 18) 1⟩,
   ⟨some 8, none, .mv (.tmp 24)⟩,
   ⟨some 9, none, .mv (.tmp 25)⟩])
 (.seq (.ops [⟨some 26, none, .mv (.tmp 0)⟩,
   ⟨some 27, none, .call (.func 49) [(.tmp 26)]⟩,
   ⟨some 10, none, .mv (.tmp 27)⟩])
 (.seq (.ops [⟨some 29, none, .mv (.tmp 10)⟩,
   ⟨some 30, none, .mv (.tmp 1)⟩,
   ⟨some 31, none, .mv (.tmp 2)⟩,
   ⟨some 32, none, .call (.func 50) [(.tmp 29), (.tmp 30), (.tmp 31)]⟩,
   ⟨some 28, none, .mv (.tmp 32)⟩,
   ⟨some 33, none, .ext (.tmp 28) 0⟩,
   ⟨some 34, none, .ext (.tmp 28) 1⟩,
   ⟨some 11, none, .mv (.tmp 33)⟩,
   ⟨some 12, none, .mv (.tmp 34)⟩])
 (.seq (.seq (.ops [⟨some 35, none, .mv (.tmp 11)⟩,
    ⟨some 36, none, .mv (.tmp 8)⟩,
    ⟨some 37, none, .bin .neq 0 (.tmp 35) (.tmp 36)⟩,
    ⟨some 38, none, .mv (.tmp 37)⟩,
    ⟨some 39, some (38, false), .mv (.tmp 12)⟩,
    ⟨some 40, some (38, false), .mv (.tmp 9)⟩,
    ⟨some 41, some (38, false), .bin .neq 0 (.tmp 39) (.tmp 40)⟩,
    ⟨some 42, none, .pick (.tmp 38) (.const (.bool true)) (.tmp 41)⟩])
  (.cond (.tmp 42) (.seq (.ops [⟨some 6, none, .mv (.const (.bool false))⟩])
   .ret)
  .skip))
 (.seq (.seq (.ops [⟨some 43, none, .mv (.tmp 10)⟩,
    ⟨some 44, none, .mv (.tmp 0)⟩,
    ⟨some 45, none, .call (.func 49) [(.tmp 44)]⟩,
    ⟨some 46, none, .call (.func 51) [(.tmp 43), (.tmp 45)]⟩,
    ⟨some 47, none, .not (.tmp 46)⟩])
  (.cond (.tmp 47) (.seq (.ops [⟨some 6, none, .mv (.const (.bool false))⟩])
   .ret)
  .skip))
 (.seq (.ops [⟨some 6, none, .mv (.const (.bool true))⟩])
 .ret))))))))))
theorem C11_ok : Try.f11.body.bind (comp Try.prog) = some C11 := by kernel_rfl
theorem C11_res : compRs Try.prog Try.f11.results.toList = some [.tmp 6] := by kernel_rfl
theorem C11_nm : (Try.f11.name == "runtime.NumGoroutine") = false := by kernel_rfl
theorem C11_fn {a0 a1 a2 : AV} {H : Heap} {Q : AV → Heap → Prop} (h : vc Try.prog C11 (vcEnd [.tmp 6] Q) H [a0, a1, a2, .any, .any, .any, .any, .any, .any, .any, .any, .any, .any, .any, .any, .any, .any, .any, .any, .any, .any, .any, .any, .any, .any, .any, .any, .any, .any, .any, .any, .any, .any, .any, .any, .any, .any, .any, .any, .any, .any, .any, .any, .any, .any, .any, .any, .any]) : Runs Try.prog 11 [a0, a1, a2] H Q :=
  @fn_go Try.prog mixed 11 Try.f11 C11 [.tmp 6] Try.func11 C11_ok C11_res C11_nm 48 Try.ntmps11 [a0, a1, a2] [a0, a1, a2, .any, .any, .any, .any, .any, .any, .any, .any, .any, .any, .any, .any, .any, .any, .any, .any, .any, .any, .any, .any, .any, .any, .any, .any, .any, .any, .any, .any, .any, .any, .any, .any, .any, .any, .any, .any, .any, .any, .any, .any, .any, .any, .any, .any, .any] H Q h 45 (by kernel_rfl) (by kernel_rfl)

/-- spec.ReminderDays -/
def C52 : CC :=
 (.seq (.ops [⟨some 4, none, .mv (.const (.slice none 0 0))⟩,
   ⟨some 5, none, .mv (.const (.int .i64 0))⟩])
 (.seq (.ops [⟨some 7, none, .mv (.tmp 0)⟩,
   ⟨some 8, none, .mv (.tmp 1)⟩,
   ⟨some 9, none, .call (.func 92) [(.tmp 7), (.tmp 8), (.const (.int .i64 0))]⟩,
   ⟨some 6, none, .mv (.tmp 9)⟩])
 (.seq (.seq (.ops [⟨some 10, none, .mv (.tmp 6)⟩,
    ⟨some 11, none, .bin .neq 0 (.tmp 10) (.const (.int .i64 0))⟩])
  (.cond (.tmp 11) (.seq (.ops [⟨some 12, none, .mv (.tmp 6)⟩,
     ⟨some 4, none, .mv (.const (.slice none 0 0))⟩,
     ⟨some 5, none, .mv (.tmp 12)⟩])
   .ret)
  .skip))
 (.seq (.ops [⟨some 13, none, .mv (.tmp 0)⟩,
   ⟨some 14, none, .mv (.tmp 1)⟩,
   ⟨some 15, none, .ia 4 (.tmp 13) (.tmp 14)⟩,
   ⟨some 16, none, .load true 4 (.tmp 15)⟩,
   ⟨some 17, none, .call (.func 100) [(.tmp 16)]⟩,
   ⟨some 4, none, .mv (.tmp 17)⟩,
   ⟨some 5, none, .mv (.const (.int .i64 0))⟩])
 .ret))))
theorem C52_ok : Try.f52.body.bind (comp Try.prog) = some C52 := by kernel_rfl
theorem C52_res : compRs Try.prog Try.f52.results.toList = some [.tmp 4, .tmp 5] := by kernel_rfl
theorem C52_nm : (Try.f52.name == "runtime.NumGoroutine") = false := by kernel_rfl
theorem C52_fn {a0 a1 : AV} {H : Heap} {Q : AV → Heap → Prop} (h : vc Try.prog C52 (vcEnd [.tmp 4, .tmp 5] Q) H [a0, a1, .any, .any, .any, .any, .any, .any, .any, .any, .any, .any, .any, .any, .any, .any, .any, .any]) : Runs Try.prog 52 [a0, a1] H Q :=
  @fn_go Try.prog mixed 52 Try.f52 C52 [.tmp 4, .tmp 5] Try.func52 C52_ok C52_res C52_nm 18 Try.ntmps52 [a0, a1] [a0, a1, .any, .any, .any, .any, .any, .any, .any, .any, .any, .any, .any, .any, .any, .any, .any, .any] H Q h 16 (by kernel_rfl) (by kernel_rfl)

/-- impl.ReminderDays -/
def C53 : CC :=
 (.seq (.ops [⟨some 4, none, .mv (.const (.slice none 0 0))⟩,
   ⟨some 5, none, .mv (.const (.int .i64 0))⟩])
 (.seq (.seq (.ops [⟨some 7, none, .mv (.tmp 0)⟩,
    ⟨some 8, none, .mv (.tmp 1)⟩,
    ⟨some 9, none, .call (.func 95) [(.tmp 7), (.tmp 8), (.const (.slice none 0 0))]⟩,
    ⟨some 6, none, .mv (.tmp 9)⟩])
  (.seq (.ops [⟨some 10, none, .mv (.tmp 6)⟩,
    ⟨some 11, none, .bin .neq 0 (.tmp 10) (.const (.int .i64 0))⟩])
  (.cond (.tmp 11) (.seq (.ops [⟨some 12, none, .mv (.tmp 6)⟩,
     ⟨some 4, none, .mv (.const (.slice none 0 0))⟩,
     ⟨some 5, none, .mv (.tmp 12)⟩])
   .ret)
  .skip)))
 (.seq (.ops [⟨some 13, none, .mv (.tmp 0)⟩,
   ⟨some 14, none, .mv (.tmp 1)⟩,
   ⟨some 15, none, .ia 4 (.tmp 13) (.tmp 14)⟩,
   ⟨some 16, none, .load true 4 (.tmp 15)⟩,
   ⟨some 17, none, .call (.func 102) [(.tmp 16)]⟩,
   ⟨some 4, none, .mv (.tmp 17)⟩,
   ⟨some 5, none, .mv (.const (.int .i64 0))⟩])
 .ret)))
theorem C53_ok : Try.f53.body.bind (comp Try.prog) = some C53 := by kernel_rfl
theorem C53_res : compRs Try.prog Try.f53.results.toList = some [.tmp 4, .tmp 5] := by kernel_rfl
theorem C53_nm : (Try.f53.name == "runtime.NumGoroutine") = false := by kernel_rfl
theorem C53_fn {a0 a1 : AV} {H : Heap} {Q : AV → Heap → Prop} (h : vc Try.prog C53 (vcEnd [.tmp 4, .tmp 5] Q) H [a0, a1, .any, .any, .any, .any, .any, .any, .any, .any, .any, .any, .any, .any, .any, .any, .any, .any]) : Runs Try.prog 53 [a0, a1] H Q :=
  @fn_go Try.prog mixed 53 Try.f53 C53 [.tmp 4, .tmp 5] Try.func53 C53_ok C53_res C53_nm 18 Try.ntmps53 [a0, a1] [a0, a1, .any, .any, .any, .any, .any, .any, .any, .any, .any, .any, .any, .any, .any, .any, .any, .any] H Q h 16 (by kernel_rfl) (by kernel_rfl)

/-- laws.markNoticeS -/
def C54 : CC :=
 (.seq (.ops [⟨some 4, none, .mv (.const (.int .i64 0))⟩])
 (.seq (.seq (.ops [⟨some 5, none, .mv (.const (.int .i64 0))⟩])
  (.block 0 (.loop (.seq (.seq (.ops [⟨some 6, none, .mv (.tmp 5)⟩,
       ⟨some 7, none, .mv (.tmp 0)⟩,
       ⟨some 8, none, .len false (.tmp 7)⟩,
       ⟨some 9, none, .bin .lss 0 (.tmp 6) (.tmp 8)⟩])
     (.cond (.tmp 9) .skip
     (.exit 0)))
    (.seq (.block 1 (.seq (.ops [⟨some 12, none, .mv (.tmp 0)⟩,
        ⟨some 13, none, .mv (.tmp 5)⟩,
        ⟨some 14, none, .mv (.tmp 1)⟩,
        ⟨some 15, none, .call (.func 79) [(.tmp 14)]⟩,
        ⟨some 16, none, .ia 4 (.tmp 12) (.tmp 13)⟩,
        ⟨some 17, none, .fa 0 (.tmp 16)⟩,
        ⟨none, none, .store 1 (.tmp 17) (.tmp 15)⟩])
      (.seq (.ops [⟨some 18, none, .mv (.tmp 1)⟩,
        ⟨some 19, none, .bin .add 0 (.tmp 18) (.const (.int .i64 1))⟩,
        ⟨some 1, none, .mv (.tmp 19)⟩])
      (.seq (.ops [⟨some 20, none, .mv (.tmp 0)⟩,
        ⟨some 21, none, .mv (.tmp 5)⟩,
        ⟨some 22, none, .mv (.tmp 1)⟩,
        ⟨some 23, none, .ia 4 (.tmp 20) (.tmp 21)⟩,
        ⟨some 24, none, .fa 1 (.tmp 23)⟩,
        ⟨none, none, .store 1 (.tmp 24) (.tmp 22)⟩])
      (.seq (.ops [⟨some 25, none, .mv (.tmp 1)⟩,
        ⟨some 26, none, .bin .add 0 (.tmp 25) (.const (.int .i64 1))⟩,
        ⟨some 1, none, .mv (.tmp 26)⟩])
      (.seq (.ops [⟨some 27, none, .mv (.tmp 0)⟩,
        ⟨some 28, none, .mv (.tmp 5)⟩,
        ⟨some 29, none, .mv (.tmp 1)⟩,
        ⟨some 30, none, .ia 4 (.tmp 27) (.tmp 28)⟩,
        ⟨some 31, none, .fa 2 (.tmp 30)⟩,
        ⟨none, none, .store 1 (.tmp 31) (.tmp 29)⟩])
      (.seq (.ops [⟨some 32, none, .mv (.tmp 1)⟩,
        ⟨some 33, none, .bin .add 0 (.tmp 32) (.const (.int .i64 1))⟩,
        ⟨some 1, none, .mv (.tmp 33)⟩])
      (.seq (.ops [⟨some 34, none, .mv (.tmp 0)⟩,
        ⟨some 35, none, .mv (.tmp 5)⟩,
        ⟨some 36, none, .mv (.tmp 1)⟩,
        ⟨some 37, none, .ia 4 (.tmp 34) (.tmp 35)⟩,
        ⟨some 38, none, .fa 3 (.tmp 37)⟩,
        ⟨none, none, .store 1 (.tmp 38) (.tmp 36)⟩])
      (.ops [⟨some 39, none, .mv (.tmp 1)⟩,
       ⟨some 40, none, .bin .add 0 (.tmp 39) (.const (.int .i64 1))⟩,
       ⟨some 1, none, .mv (.tmp 40)⟩])))))))))
    (.ops [⟨some 10, none, .mv (.tmp 5)⟩,
     ⟨some 11, none, .bin .add 0 (.tmp 10) (.const (.int .i64 1))⟩,
     ⟨some 5, none, .mv (.tmp 11)⟩]))))))
 (.seq (.ops [⟨some 41, none, .mv (.tmp 1)⟩,
   ⟨some 4, none, .mv (.tmp 41)⟩])
 .ret)))
theorem C54_ok : Try.f54.body.bind (comp Try.prog) = some C54 := by kernel_rfl
theorem C54_res : compRs Try.prog Try.f54.results.toList = some [.tmp 4] := by kernel_rfl
theorem C54_nm : (Try.f54.name == "runtime.NumGoroutine") = false := by kernel_rfl
theorem C54_fn {a0 a1 : AV} {H : Heap} {Q : AV → Heap → Prop} (h : vc Try.prog C54 (vcEnd [.tmp 4] Q) H [a0, a1, .any, .any, .any, .any, .any, .any, .any, .any, .any, .any, .any, .any, .any, .any, .any, .any, .any, .any, .any, .any, .any, .any, .any, .any, .any, .any, .any, .any, .any, .any, .any, .any, .any, .any, .any, .any, .any, .any, .any, .any]) : Runs Try.prog 54 [a0, a1] H Q :=
  @fn_go Try.prog mixed 54 Try.f54 C54 [.tmp 4] Try.func54 C54_ok C54_res C54_nm 42 Try.ntmps54 [a0, a1] [a0, a1, .any, .any, .any, .any, .any, .any, .any, .any, .any, .any, .any, .any, .any, .any, .any, .any, .any, .any, .any, .any, .any, .any, .any, .any, .any, .any, .any, .any, .any, .any, .any, .any, .any, .any, .any, .any, .any, .any, .any, .any] H Q h 40 (by kernel_rfl) (by kernel_rfl)

/-- laws.FnExactReminderDays -/
def C12 : CC :=
 (.seq (.ops [⟨some 4, none, .mv (.const (.bool false))⟩])
 (.seq (.ops [⟨some 5, none, .mv (.const (.int .i64 1048576))⟩])
 (.seq (.ops [⟨some 16, none, .mv (.tmp 0)⟩,
   ⟨some 17, none, .mv (.tmp 5)⟩,
   ⟨some 18, none, .call (.func 36) [(.tmp 16), (.tmp 17)]⟩,
   ⟨some 5, none, .mv (.tmp 18)⟩])
 (.seq (.seq (.ops [⟨some 19, none, .mv (.tmp 5)⟩,
    ⟨some 20, none, .bin .lss 0 (.tmp 19) (.const (.int .i64 0))⟩])
  (.cond (.tmp 20) (.seq (.ops [⟨some 4, none, .mv (.const (.bool true))⟩])
   .ret)
  .skip))
 (.seq (.ops [⟨some 22, none, .mv (.tmp 0)⟩,
   ⟨some 23, none, .call (.func 38) [(.tmp 22)]⟩,
   ⟨some 24, none, .mv (.tmp 1)⟩,
   ⟨some 25, none, .call (.func 52) [(.tmp 23), (.tmp 24)]⟩,
   ⟨some 21, none, .mv (.tmp 25)⟩,
   ⟨some 26, none, .ext (.tmp 21) 0⟩,
   ⟨some 27, none, .ext (.tmp 21) 1⟩,
   ⟨some 6, none, .mv (.tmp 26)⟩,
   ⟨some 7, none, .mv (.tmp 27)⟩])
 (.seq (.ops [⟨some 28, none, .mv (.tmp 0)⟩,
   ⟨some 29, none, .call (.func 38) [(.tmp 28)]⟩,
   ⟨some 8, none, .mv (.tmp 29)⟩])
 (.seq (.ops [⟨some 31, none, .mv (.tmp 8)⟩,
   ⟨some 32, none, .mv (.tmp 1)⟩,
   ⟨some 33, none, .call (.func 53) [(.tmp 31), (.tmp 32)]⟩,
   ⟨some 30, none, .mv (.tmp 33)⟩,
   ⟨some 34, none, .ext (.tmp 30) 0⟩,
   ⟨some 35, none, .ext (.tmp 30) 1⟩,
   ⟨some 9, none, .mv (.tmp 34)⟩,
   ⟨some 10, none, .mv (.tmp 35)⟩])
 (.seq (.seq (.ops [⟨some 36, none, .mv (.tmp 9)⟩,
    ⟨some 37, none, .mv (.tmp 6)⟩,
    ⟨some 38, none, .call (.func 25) [(.tmp 36), (.tmp 37)]⟩,
    ⟨some 39, none, .not (.tmp 38)⟩,
    ⟨some 40, none, .mv (.tmp 39)⟩,
    ⟨some 41, some (40, false), .mv (.tmp 10)⟩,
    ⟨some 42, some (40, false), .mv (.tmp 7)⟩,
    ⟨some 43, some (40, false), .bin .neq 0 (.tmp 41) (.tmp 42)⟩,
    ⟨some 44, none, .pick (.tmp 40) (.const (.bool true)) (.tmp 43)⟩])
  (.cond (.tmp 44) (.seq (.ops [⟨some 4, none, .mv (.const (.bool false))⟩])
   .ret)
  .skip))
 (.seq (.seq (.ops [⟨some 45, none, .mv (.tmp 8)⟩,
    ⟨some 46, none, .mv (.tmp 0)⟩,
    ⟨some 47, none, .call (.func 38) [(.tmp 46)]⟩,
    ⟨some 48, none, .call (.func 40) [(.tmp 45), (.tmp 47)]⟩,
    ⟨some 49, none, .not (.tmp 48)⟩])
  (.cond (.tmp 49) (.seq (.ops [⟨some 4, none, .mv (.const (.bool false))⟩])
   .ret)
  .skip))
 (.seq (.ops [⟨some 11, none, .mv (.const (.int .i64 1))⟩])
 (.seq (.ops [⟨some 50, none, .mv (.tmp 8)⟩,
   ⟨some 51, none, .mv (.tmp 11)⟩,
   ⟨some 52, none, .call (.func 54) [(.tmp 50), (.tmp 51)]⟩,
   ⟨some 11, none, .mv (.tmp 52)⟩])
 (.seq (.seq (.ops [⟨some 53, none, .mv (.tmp 11)⟩,
    ⟨some 54, none, .bin .lss 0 (.tmp 53) (.const (.int .i64 0))⟩,
    ⟨some 55, none, .mv (.tmp 54)⟩,
    ⟨some 56, some (55, false), .mv (.tmp 9)⟩,
    ⟨some 57, some (55, false), .mv (.tmp 6)⟩,
    ⟨some 58, some (55, false), .call (.func 25) [(.tmp 56), (.tmp 57)]⟩,
    ⟨some 59, some (55, false), .not (.tmp 58)⟩,
    ⟨some 60, none, .pick (.tmp 55) (.const (.bool true)) (.tmp 59)⟩,
    ⟨some 61, none, .mv (.tmp 60)⟩,
    ⟨some 62, some (61, false), .mv (.tmp 10)⟩,
    ⟨some 63, some (61, false), .mv (.tmp 7)⟩,
    ⟨some 64, some (61, false), .bin .neq 0 (.tmp 62) (.tmp 63)⟩,
    ⟨some 65, none, .pick (.tmp 61) (.const (.bool true)) (.tmp 64)⟩])
  (.cond (.tmp 65) (.seq (.ops [⟨some 4, none, .mv (.const (.bool false))⟩])
   .ret)
  .skip))
 (.seq (.ops [⟨some 12, none, .mv (.const (.int .i64 1))⟩])
 (.seq (.ops [⟨some 66, none, .mv (.tmp 9)⟩,
   ⟨some 67, none, .mv (.tmp 12)⟩,
   ⟨some 68, none, .call (.func 27) [(.tmp 66), (.tmp 67)]⟩,
   ⟨some 12, none, .mv (.tmp 68)⟩])
 (.seq (.ops [⟨some 13, none, .mv (.const (.int .i64 1))⟩])
 (.seq (.ops [⟨some 69, none, .mv (.tmp 9)⟩,
   ⟨some 70, none, .mv (.tmp 13)⟩,
   ⟨some 71, none, .call (.func 35) [(.tmp 69), (.tmp 70)]⟩,
   ⟨some 13, none, .mv (.tmp 71)⟩])
 (.seq (.seq (.ops [⟨some 72, none, .mv (.tmp 13)⟩,
    ⟨some 73, none, .bin .lss 0 (.tmp 72) (.const (.int .i64 0))⟩])
  (.cond (.tmp 73) (.seq (.ops [⟨some 4, none, .mv (.const (.bool false))⟩])
   .ret)
  .skip))
 (.seq (.seq (.ops [⟨some 74, none, .mv (.tmp 13)⟩,
    ⟨some 75, none, .mv (.tmp 12)⟩,
    ⟨some 76, none, .bin .neq 0 (.tmp 74) (.tmp 75)⟩])
  (.cond (.tmp 76) (.seq (.ops [⟨some 4, none, .mv (.const (.bool false))⟩])
   .ret)
  .skip))
 (.seq (.ops [⟨some 78, none, .mv (.tmp 0)⟩,
   ⟨some 79, none, .call (.func 38) [(.tmp 78)]⟩,
   ⟨some 80, none, .mv (.tmp 1)⟩,
   ⟨some 81, none, .call (.func 53) [(.tmp 79), (.tmp 80)]⟩,
   ⟨some 77, none, .mv (.tmp 81)⟩,
   ⟨some 82, none, .ext (.tmp 77) 0⟩,
   ⟨some 83, none, .ext (.tmp 77) 1⟩,
   ⟨some 14, none, .mv (.tmp 82)⟩,
   ⟨some 15, none, .mv (.tmp 83)⟩])
 (.seq (.seq (.ops [⟨some 84, none, .mv (.tmp 14)⟩,
    ⟨some 85, none, .mv (.tmp 6)⟩,
    ⟨some 86, none, .call (.func 25) [(.tmp 84), (.tmp 85)]⟩,
    ⟨some 87, none, .not (.tmp 86)⟩,
    ⟨some 88, none, .mv (.tmp 87)⟩,
    ⟨some 89, some (88, false), .mv (.tmp 15)⟩,
    ⟨some 90, some (88, false), .mv (.tmp 7)⟩,
    ⟨some 91, some (88, false), .bin .neq 0 (.tmp 89) (.tmp 90)⟩,
    ⟨some 92, none, .pick (.tmp 88) (.const (.bool true)) (.tmp 91)⟩])
  (.cond (.tmp 92) (.seq (.ops [⟨some 4, none, .mv (.const (.bool false))⟩])
   .ret)
  .skip))
 (.seq (.ops [⟨some 13, none, .mv (.const (.int .i64 1))⟩])
 (.seq (.ops [⟨some 93, none, .mv (.tmp 9)⟩,
   ⟨some 94, none, .mv (.tmp 13)⟩,
   ⟨some 95, none, .call (.func 35) [(.tmp 93), (.tmp 94)]⟩,
   ⟨some 13, none, .mv (.tmp 95)⟩])
 (.seq (.seq (.ops [⟨some 96, none, .mv (.tmp 13)⟩,
    ⟨some 97, none, .bin .lss 0 (.tmp 96) (.const (.int .i64 0))⟩])
  (.cond (.tmp 97) (.seq (.ops [⟨some 4, none, .mv (.const (.bool false))⟩])
   .ret)
  .skip))
 (.seq (.seq (.ops [⟨some 98, none, .mv (.tmp 13)⟩,
    ⟨some 99, none, .mv (.tmp 12)⟩,
    ⟨some 100, none, .bin .neq 0 (.tmp 98) (.tmp 99)⟩])
  (.cond (.tmp 100) (.seq (.ops [⟨some 4, none, .mv (.const (.bool false))⟩])
   .ret)
  .skip))
 (.seq (.ops [⟨some 4, none, .mv (.const (.bool true))⟩])
 .ret)))))))))))))))))))))))))
theorem C12_ok : Try.f12.body.bind (comp Try.prog) = some C12 := by kernel_rfl
theorem C12_res : compRs Try.prog Try.f12.results.toList = some [.tmp 4] := by kernel_rfl
theorem C12_nm : (Try.f12.name == "runtime.NumGoroutine") = false := by kernel_rfl
theorem C12_fn {a0 a1 : AV} {H : Heap} {Q : AV → Heap → Prop} (h : vc Try.prog C12 (vcEnd [.tmp 4] Q) H [a0, a1, .any, .any, .any, .any, .any, .any, .any, .any, .any, .any, .any, .any, .any, .any, .any, .any, .any, .any, .any, .any, .any, .any, .any, .any, .any, .any, .any, .any, .any, .any, .any, .any, .any, .any, .any, .any, .any, .any, .any, .any, .any, .any, .any, .any, .any, .any, .any, .any, .any, .any, .any, .any, .any, .any, .any, .any, .any, .any, .any, .any, .any, .any, .any, .any, .any, .any, .any, .any, .any, .any, .any, .any, .any, .any, .any, .any, .any, .any, .any, .any, .any, .any, .any, .any, .any, .any, .any, .any, .any, .any, .any, .any, .any, .any, .any, .any, .any, .any, .any]) : Runs Try.prog 12 [a0, a1] H Q :=
  @fn_go Try.prog mixed 12 Try.f12 C12 [.tmp 4] Try.func12 C12_ok C12_res C12_nm 101 Try.ntmps12 [a0, a1] [a0, a1, .any, .any, .any, .any, .any, .any, .any, .any, .any, .any, .any, .any, .any, .any, .any, .any, .any, .any, .any, .any, .any, .any, .any, .any, .any, .any, .any, .any, .any, .any, .any, .any, .any, .any, .any, .any, .any, .any, .any, .any, .any, .any, .any, .any, .any, .any, .any, .any, .any, .any, .any, .any, .any, .any, .any, .any, .any, .any, .any, .any, .any, .any, .any, .any, .any, .any, .any, .any, .any, .any, .any, .any, .any, .any, .any, .any, .any, .any, .any, .any, .any, .any, .any, .any, .any, .any, .any, .any, .any, .any, .any, .any, .any, .any, .any, .any, .any, .any, .any] H Q h 99 (by kernel_rfl) (by kernel_rfl)

/-- laws.big -/
def C55 : CC :=
 (.seq (.ops [⟨some 2, none, .mv (.const (.bool false))⟩])
 (.seq (.ops [⟨some 3, none, .mv (.tmp 0)⟩,
   ⟨some 4, none, .len false (.tmp 3)⟩,
   ⟨some 5, none, .bin .gtr 0 (.tmp 4) (.const (.int .i64 4096))⟩,
   ⟨some 2, none, .mv (.tmp 5)⟩])
 .ret))
theorem C55_ok : Try.f55.body.bind (comp Try.prog) = some C55 := by kernel_rfl
theorem C55_res : compRs Try.prog Try.f55.results.toList = some [.tmp 2] := by kernel_rfl
theorem C55_nm : (Try.f55.name == "runtime.NumGoroutine") = false := by kernel_rfl
theorem C55_fn {a0 : AV} {H : Heap} {Q : AV → Heap → Prop} (h : vc Try.prog C55 (vcEnd [.tmp 2] Q) H [a0, .any, .any, .any, .any, .any]) : Runs Try.prog 55 [a0] H Q :=
  @fn_go Try.prog mixed 55 Try.f55 C55 [.tmp 2] Try.func55 C55_ok C55_res C55_nm 6 Try.ntmps55 [a0] [a0, .any, .any, .any, .any, .any] H Q h 5 (by kernel_rfl) (by kernel_rfl)

/-- spec.l01From -/
def C119 : CC :=
 (.seq (.ops [⟨some 2, none, .mv (.const (.pointer none))⟩])
 (.seq (.ops [⟨some 5, none, .mv (.tmp 0)⟩,
   ⟨some 6, none, .build [.slice none 0 0, .int .i64 0, .int .i64 0] [(0, 1, (.tmp 5)), (2, 1, (.const (.int .i64 41017)))]⟩,
   ⟨some 7, none, .box (.tmp 6)⟩,
   ⟨some 3, none, .mv (.tmp 7)⟩])
 (.seq (.seq (.ops [⟨some 4, none, .mv (.const (.int .i64 0))⟩])
  (.block 0 (.loop (.seq (.seq (.ops [⟨some 8, none, .mv (.tmp 4)⟩,
       ⟨some 9, none, .mv (.tmp 0)⟩,
       ⟨some 10, none, .len false (.tmp 9)⟩,
       ⟨some 11, none, .bin .lss 0 (.tmp 8) (.tmp 10)⟩,
       ⟨some 12, none, .mv (.tmp 11)⟩,
       ⟨some 13, some (12, true), .mv (.tmp 4)⟩,
       ⟨some 14, some (12, true), .bin .lss 0 (.tmp 13) (.const (.int .i64 64))⟩,
       ⟨some 15, none, .pick (.tmp 12) (.tmp 14) (.const (.bool false))⟩])
     (.cond (.tmp 15) .skip
     (.exit 0)))
    (.seq (.block 1 (.draw 16 [⟨some 18, none, .mv (.tmp 3)⟩,
       ⟨some 19, none, .mv (.tmp 3)⟩,
       ⟨some 20, none, .nilck (.tmp 19)⟩,
       ⟨some 21, none, .fa 2 (.tmp 20)⟩,
       ⟨some 22, none, .load false 1 (.tmp 21)⟩,
       ⟨some 23, none, .bin .mul 0 (.tmp 22) (.const (.int .i64 67))⟩,
       ⟨some 24, none, .mv (.tmp 0)⟩,
       ⟨some 25, none, .mv (.tmp 4)⟩,
       ⟨some 26, none, .ia 1 (.tmp 24) (.tmp 25)⟩,
       ⟨some 27, none, .load false 1 (.tmp 26)⟩,
       ⟨some 28, none, .conv .i64 (.tmp 27)⟩,
       ⟨some 29, none, .bin .add 0 (.tmp 23) (.tmp 28)⟩,
       ⟨some 30, none, .bin .rem 0 (.tmp 29) (.const (.int .i64 2147483647))⟩,
       ⟨some 31, none, .nilck (.tmp 18)⟩,
       ⟨some 32, none, .fa 2 (.tmp 31)⟩,
       ⟨none, none, .store 1 (.tmp 32) (.tmp 30)⟩]))
    (.ops [⟨some 16, none, .mv (.tmp 4)⟩,
     ⟨some 17, none, .bin .add 0 (.tmp 16) (.const (.int .i64 1))⟩,
     ⟨some 4, none, .mv (.tmp 17)⟩]))))))
 (.seq (.ops [⟨some 33, none, .mv (.tmp 3)⟩,
   ⟨some 2, none, .mv (.tmp 33)⟩])
 .ret))))
theorem C119_ok : Try.f119.body.bind (comp Try.prog) = some C119 := by kernel_rfl
theorem C119_res : compRs Try.prog Try.f119.results.toList = some [.tmp 2] := by kernel_rfl
theorem C119_nm : (Try.f119.name == "runtime.NumGoroutine") = false := by kernel_rfl
theorem C119_fn {a0 : AV} {H : Heap} {Q : AV → Heap → Prop} (h : vc Try.prog C119 (vcEnd [.tmp 2] Q) H [a0, .any, .any, .any, .any, .any, .any, .any, .any, .any, .any, .any, .any, .any, .any, .any, .any, .any, .any, .any, .any, .any, .any, .any, .any, .any, .any, .any, .any, .any, .any, .any, .any, .any]) : Runs Try.prog 119 [a0] H Q :=
  @fn_go Try.prog mixed 119 Try.f119 C119 [.tmp 2] Try.func119 C119_ok C119_res C119_nm 34 Try.ntmps119 [a0] [a0, .any, .any, .any, .any, .any, .any, .any, .any, .any, .any, .any, .any, .any, .any, .any, .any, .any, .any, .any, .any, .any, .any, .any, .any, .any, .any, .any, .any, .any, .any, .any, .any, .any] H Q h 33 (by kernel_rfl) (by kernel_rfl)

/-- spec.l01Next -/
def C121 : CC :=
 (.seq (.ops [⟨some 4, none, .mv (.const (.int .i64 0))⟩])
 (.seq (.seq (.ops [⟨some 6, none, .mv (.tmp 1)⟩,
    ⟨some 7, none, .bin .leq 0 (.tmp 6) (.const (.int .i64 1))⟩])
  (.cond (.tmp 7) (.seq (.ops [⟨some 4, none, .mv (.const (.int .i64 0))⟩])
   .ret)
  .skip))
 (.seq (.ops [⟨some 8, none, .mv (.tmp 0)⟩,
   ⟨some 9, none, .mv (.tmp 0)⟩,
   ⟨some 10, none, .nilck (.tmp 9)⟩,
   ⟨some 11, none, .fa 2 (.tmp 10)⟩,
   ⟨some 12, none, .load false 1 (.tmp 11)⟩,
   ⟨some 13, none, .bin .mul 0 (.tmp 12) (.const (.int .i64 48271))⟩,
   ⟨some 14, none, .bin .add 0 (.tmp 13) (.const (.int .i64 29))⟩,
   ⟨some 15, none, .bin .rem 0 (.tmp 14) (.const (.int .i64 2147483647))⟩,
   ⟨some 16, none, .nilck (.tmp 8)⟩,
   ⟨some 17, none, .fa 2 (.tmp 16)⟩,
   ⟨none, none, .store 1 (.tmp 17) (.tmp 15)⟩])
 (.seq (.ops [⟨some 18, none, .mv (.tmp 0)⟩,
   ⟨some 19, none, .nilck (.tmp 18)⟩,
   ⟨some 20, none, .fa 2 (.tmp 19)⟩,
   ⟨some 21, none, .load false 1 (.tmp 20)⟩,
   ⟨some 22, none, .bin .quo 0 (.tmp 21) (.const (.int .i64 31))⟩,
   ⟨some 5, none, .mv (.tmp 22)⟩])
 (.seq (.seq (.draw 10 [⟨some 23, none, .mv (.tmp 0)⟩,
    ⟨some 24, none, .nilck (.tmp 23)⟩,
    ⟨some 25, none, .fa 1 (.tmp 24)⟩,
    ⟨some 26, none, .load false 1 (.tmp 25)⟩,
    ⟨some 27, none, .mv (.tmp 0)⟩,
    ⟨some 28, none, .nilck (.tmp 27)⟩,
    ⟨some 29, none, .fa 0 (.tmp 28)⟩,
    ⟨some 30, none, .load false 1 (.tmp 29)⟩,
    ⟨some 31, none, .len false (.tmp 30)⟩,
    ⟨some 32, none, .bin .lss 0 (.tmp 26) (.tmp 31)⟩])
  (.cond (.tmp 32) (.seq (.draw 13 [⟨some 33, none, .mv (.tmp 5)⟩,
     ⟨some 34, none, .mv (.tmp 0)⟩,
     ⟨some 35, none, .nilck (.tmp 34)⟩,
     ⟨some 36, none, .fa 0 (.tmp 35)⟩,
     ⟨some 37, none, .load false 1 (.tmp 36)⟩,
     ⟨some 38, none, .mv (.tmp 0)⟩,
     ⟨some 39, none, .nilck (.tmp 38)⟩,
     ⟨some 40, none, .fa 1 (.tmp 39)⟩,
     ⟨some 41, none, .load false 1 (.tmp 40)⟩,
     ⟨some 42, none, .ia 1 (.tmp 37) (.tmp 41)⟩,
     ⟨some 43, none, .load false 1 (.tmp 42)⟩,
     ⟨some 44, none, .conv .i64 (.tmp 43)⟩,
     ⟨some 45, none, .bin .add 0 (.tmp 33) (.tmp 44)⟩,
     ⟨some 5, none, .mv (.tmp 45)⟩])
   (.seq (.ops [⟨some 46, none, .mv (.tmp 0)⟩,
     ⟨some 47, none, .nilck (.tmp 46)⟩,
     ⟨some 48, none, .fa 1 (.tmp 47)⟩,
     ⟨some 49, none, .load false 1 (.tmp 48)⟩,
     ⟨some 50, none, .bin .add 0 (.tmp 49) (.const (.int .i64 1))⟩,
     ⟨some 51, none, .nilck (.tmp 46)⟩,
     ⟨some 52, none, .fa 1 (.tmp 51)⟩,
     ⟨none, none, .store 1 (.tmp 52) (.tmp 50)⟩])
   (.seq (.ops [⟨some 53, none, .mv (.tmp 1)⟩,
     ⟨some 54, none, .bin .leq 0 (.tmp 53) (.const (.int .i64 256))⟩,
     ⟨some 55, none, .mv (.tmp 54)⟩,
     ⟨some 56, some (55, true), .mv (.tmp 0)⟩,
     ⟨some 57, some (55, true), .nilck (.tmp 56)⟩,
     ⟨some 58, some (55, true), .fa 1 (.tmp 57)⟩,
     ⟨some 59, some (55, true), .load false 1 (.tmp 58)⟩,
     ⟨some 60, some (55, true), .bin .rem 0 (.tmp 59) (.const (.int .i64 2))⟩,
     ⟨some 61, some (55, true), .bin .eql 0 (.tmp 60) (.const (.int .i64 0))⟩,
     ⟨some 62, none, .pick (.tmp 55) (.tmp 61) (.const (.bool false))⟩])
   (.cond (.tmp 62) (.draw 12 [⟨some 63, none, .mv (.tmp 0)⟩,
     ⟨some 64, none, .nilck (.tmp 63)⟩,
     ⟨some 65, none, .fa 0 (.tmp 64)⟩,
     ⟨some 66, none, .load false 1 (.tmp 65)⟩,
     ⟨some 67, none, .mv (.tmp 0)⟩,
     ⟨some 68, none, .nilck (.tmp 67)⟩,
     ⟨some 69, none, .fa 1 (.tmp 68)⟩,
     ⟨some 70, none, .load false 1 (.tmp 69)⟩,
     ⟨some 71, none, .bin .sub 0 (.tmp 70) (.const (.int .i64 1))⟩,
     ⟨some 72, none, .ia 1 (.tmp 66) (.tmp 71)⟩,
     ⟨some 73, none, .load false 1 (.tmp 72)⟩,
     ⟨some 74, none, .conv .i64 (.tmp 73)⟩,
     ⟨some 5, none, .mv (.tmp 74)⟩])
   .skip))))
  .skip))
 (.seq (.ops [⟨some 75, none, .mv (.tmp 5)⟩,
   ⟨some 76, none, .mv (.tmp 1)⟩,
   ⟨some 77, none, .bin .rem 0 (.tmp 75) (.tmp 76)⟩,
   ⟨some 4, none, .mv (.tmp 77)⟩])
 .ret))))))
theorem C121_ok : Try.f121.body.bind (comp Try.prog) = some C121 := by kernel_rfl
theorem C121_res : compRs Try.prog Try.f121.results.toList = some [.tmp 4] := by kernel_rfl
theorem C121_nm : (Try.f121.name == "runtime.NumGoroutine") = false := by kernel_rfl
theorem C121_fn {a0 a1 : AV} {H : Heap} {Q : AV → Heap → Prop} (h : vc Try.prog C121 (vcEnd [.tmp 4] Q) H [a0, a1, .any, .any, .any, .any, .any, .any, .any, .any, .any, .any, .any, .any, .any, .any, .any, .any, .any, .any, .any, .any, .any, .any, .any, .any, .any, .any, .any, .any, .any, .any, .any, .any, .any, .any, .any, .any, .any, .any, .any, .any, .any, .any, .any, .any, .any, .any, .any, .any, .any, .any, .any, .any, .any, .any, .any, .any, .any, .any, .any, .any, .any, .any, .any, .any, .any, .any, .any, .any, .any, .any, .any, .any, .any, .any, .any, .any]) : Runs Try.prog 121 [a0, a1] H Q :=
  @fn_go Try.prog mixed 121 Try.f121 C121 [.tmp 4] Try.func121 C121_ok C121_res C121_nm 78 Try.ntmps121 [a0, a1] [a0, a1, .any, .any, .any, .any, .any, .any, .any, .any, .any, .any, .any, .any, .any, .any, .any, .any, .any, .any, .any, .any, .any, .any, .any, .any, .any, .any, .any, .any, .any, .any, .any, .any, .any, .any, .any, .any, .any, .any, .any, .any, .any, .any, .any, .any, .any, .any, .any, .any, .any, .any, .any, .any, .any, .any, .any, .any, .any, .any, .any, .any, .any, .any, .any, .any, .any, .any, .any, .any, .any, .any, .any, .any, .any, .any, .any, .any] H Q h 76 (by kernel_rfl) (by kernel_rfl)

/-- spec.l01Pick -/
def C123 : CC :=
 (.seq (.ops [⟨some 4, none, .mv (.const (.int .i64 0))⟩])
 (.seq (.ops [⟨some 5, none, .mv (.tmp 1)⟩,
   ⟨some 6, none, .mv (.tmp 0)⟩,
   ⟨some 7, none, .mv (.tmp 1)⟩,
   ⟨some 8, none, .len false (.tmp 7)⟩,
   ⟨some 9, none, .call (.func 121) [(.tmp 6), (.tmp 8)]⟩,
   ⟨some 10, none, .ia 1 (.tmp 5) (.tmp 9)⟩,
   ⟨some 11, none, .load false 1 (.tmp 10)⟩,
   ⟨some 4, none, .mv (.tmp 11)⟩])
 .ret))
theorem C123_ok : Try.f123.body.bind (comp Try.prog) = some C123 := by kernel_rfl
theorem C123_res : compRs Try.prog Try.f123.results.toList = some [.tmp 4] := by kernel_rfl
theorem C123_nm : (Try.f123.name == "runtime.NumGoroutine") = false := by kernel_rfl
theorem C123_fn {a0 a1 : AV} {H : Heap} {Q : AV → Heap → Prop} (h : vc Try.prog C123 (vcEnd [.tmp 4] Q) H [a0, a1, .any, .any, .any, .any, .any, .any, .any, .any, .any, .any]) : Runs Try.prog 123 [a0, a1] H Q :=
  @fn_go Try.prog mixed 123 Try.f123 C123 [.tmp 4] Try.func123 C123_ok C123_res C123_nm 12 Try.ntmps123 [a0, a1] [a0, a1, .any, .any, .any, .any, .any, .any, .any, .any, .any, .any] H Q h 10 (by kernel_rfl) (by kernel_rfl)

/-- spec.l01DrawAmount -/
def C122 : CC :=
 (.seq (.ops [⟨some 2, none, .mv (.const (.int .i64 0))⟩])
 (.seq (.ops [⟨some 3, none, .mv (.tmp 0)⟩,
   ⟨some 4, none, .mv (.tmp 0)⟩,
   ⟨some 5, none, .call (.func 121) [(.tmp 4), (.const (.int .i64 1000))]⟩,
   ⟨some 6, none, .mv (.tmp 0)⟩,
   ⟨some 7, none, .call (.func 121) [(.tmp 6), (.const (.int .i64 100000))]⟩,
   ⟨some 8, none, .mv (.tmp 0)⟩,
   ⟨some 9, none, .call (.func 121) [(.tmp 8), (.const (.int .i64 10000000))]⟩,
   ⟨some 10, none, .mv (.tmp 0)⟩,
   ⟨some 11, none, .call (.func 121) [(.tmp 10), (.const (.int .i64 10000))]⟩,
   ⟨some 12, none, .bin .mul 0 (.const (.int .i64 100)) (.tmp 11)⟩,
   ⟨some 13, none, .mv (.tmp 0)⟩,
   ⟨some 14, none, .call (.func 121) [(.tmp 13), (.const (.int .i64 100000))]⟩,
   ⟨some 15, none, .mv (.tmp 0)⟩,
   ⟨some 16, none, .call (.func 121) [(.tmp 15), (.const (.int .i64 2000000))]⟩,
   ⟨some 17, none, .bin .sub 0 (.tmp 16) (.const (.int .i64 1))⟩,
   ⟨some 18, none, .lit 1 [(.tmp 5), (.tmp 7), (.tmp 9), (.tmp 12), (.const (.int .i64 0)), (.const (.int .i64 1)), (.tmp 14), (.const (.int .i64 1000000000)), (.tmp 17), (.const (.int .i64 1000000001))]⟩,
   ⟨some 19, none, .call (.func 123) [(.tmp 3), (.tmp 18)]⟩,
   ⟨some 2, none, .mv (.tmp 19)⟩])
 .ret))
theorem C122_ok : Try.f122.body.bind (comp Try.prog) = some C122 := by kernel_rfl
theorem C122_res : compRs Try.prog Try.f122.results.toList = some [.tmp 2] := by kernel_rfl
theorem C122_nm : (Try.f122.name == "runtime.NumGoroutine") = false := by kernel_rfl
theorem C122_fn {a0 : AV} {H : Heap} {Q : AV → Heap → Prop} (h : vc Try.prog C122 (vcEnd [.tmp 2] Q) H [a0, .any, .any, .any, .any, .any, .any, .any, .any, .any, .any, .any, .any, .any, .any, .any, .any, .any, .any, .any]) : Runs Try.prog 122 [a0] H Q :=
  @fn_go Try.prog mixed 122 Try.f122 C122 [.tmp 2] Try.func122 C122_ok C122_res C122_nm 20 Try.ntmps122 [a0] [a0, .any, .any, .any, .any, .any, .any, .any, .any, .any, .any, .any, .any, .any, .any, .any, .any, .any, .any, .any] H Q h 19 (by kernel_rfl) (by kernel_rfl)

/-- spec.l01DrawGood -/
def C147 : CC :=
 (.seq (.ops [⟨some 2, none, .mv (.const (.int .i64 0))⟩])
 (.seq (.ops [⟨some 3, none, .mv (.tmp 0)⟩,
   ⟨some 4, none, .mv (.tmp 0)⟩,
   ⟨some 5, none, .call (.func 121) [(.tmp 4), (.const (.int .i64 1000))]⟩,
   ⟨some 6, none, .mv (.tmp 0)⟩,
   ⟨some 7, none, .call (.func 121) [(.tmp 6), (.const (.int .i64 100000))]⟩,
   ⟨some 8, none, .mv (.tmp 0)⟩,
   ⟨some 9, none, .call (.func 121) [(.tmp 8), (.const (.int .i64 1000000))]⟩,
   ⟨some 10, none, .mv (.tmp 0)⟩,
   ⟨some 11, none, .call (.func 121) [(.tmp 10), (.const (.int .i64 10000))]⟩,
   ⟨some 12, none, .bin .mul 0 (.const (.int .i64 100)) (.tmp 11)⟩,
   ⟨some 13, none, .lit 1 [(.tmp 5), (.tmp 7), (.tmp 9), (.tmp 12), (.const (.int .i64 0))]⟩,
   ⟨some 14, none, .call (.func 123) [(.tmp 3), (.tmp 13)]⟩,
   ⟨some 2, none, .mv (.tmp 14)⟩])
 .ret))
theorem C147_ok : Try.f147.body.bind (comp Try.prog) = some C147 := by kernel_rfl
theorem C147_res : compRs Try.prog Try.f147.results.toList = some [.tmp 2] := by kernel_rfl
theorem C147_nm : (Try.f147.name == "runtime.NumGoroutine") = false := by kernel_rfl
theorem C147_fn {a0 : AV} {H : Heap} {Q : AV → Heap → Prop} (h : vc Try.prog C147 (vcEnd [.tmp 2] Q) H [a0, .any, .any, .any, .any, .any, .any, .any, .any, .any, .any, .any, .any, .any, .any]) : Runs Try.prog 147 [a0] H Q :=
  @fn_go Try.prog mixed 147 Try.f147 C147 [.tmp 2] Try.func147 C147_ok C147_res C147_nm 15 Try.ntmps147 [a0] [a0, .any, .any, .any, .any, .any, .any, .any, .any, .any, .any, .any, .any, .any, .any] H Q h 14 (by kernel_rfl) (by kernel_rfl)

/-- spec.l05DrawCode -/
def C148 : CC :=
 (.seq (.ops [⟨some 2, none, .mv (.const (.string ⟨#[]⟩))⟩])
 (.seq (.ops [⟨some 3, none, .lit 1 [(.const (.string ⟨#[97, 108, 98, 97]⟩)), (.const (.string ⟨#[98, 111, 114, 111]⟩)), (.const (.string ⟨#[99, 97, 112, 101]⟩)), (.const (.string ⟨#[100, 111, 114, 97]⟩)), (.const (.string ⟨#[101, 108, 105, 110]⟩)), (.const (.string ⟨#[97, 108, 98, 97]⟩)), (.const (.string ⟨#[98, 111, 114, 111]⟩)), (.const (.string ⟨#[99, 97, 112, 101]⟩)), (.const (.string ⟨#[100, 111, 114, 97]⟩)), (.const (.string ⟨#[]⟩)), (.const (.string ⟨#[65, 108, 98, 97]⟩)), (.const (.string ⟨#[116, 111, 111, 108, 111, 110, 103]⟩))]⟩,
   ⟨some 4, none, .mv (.tmp 0)⟩,
   ⟨some 5, none, .call (.func 121) [(.tmp 4), (.const (.int .i64 12))]⟩,
   ⟨some 6, none, .ia 1 (.tmp 3) (.tmp 5)⟩,
   ⟨some 7, none, .load false 1 (.tmp 6)⟩,
   ⟨some 2, none, .mv (.tmp 7)⟩])
 .ret))
theorem C148_ok : Try.f148.body.bind (comp Try.prog) = some C148 := by kernel_rfl
theorem C148_res : compRs Try.prog Try.f148.results.toList = some [.tmp 2] := by kernel_rfl
theorem C148_nm : (Try.f148.name == "runtime.NumGoroutine") = false := by kernel_rfl
theorem C148_fn {a0 : AV} {H : Heap} {Q : AV → Heap → Prop} (h : vc Try.prog C148 (vcEnd [.tmp 2] Q) H [a0, .any, .any, .any, .any, .any, .any, .any]) : Runs Try.prog 148 [a0] H Q :=
  @fn_go Try.prog mixed 148 Try.f148 C148 [.tmp 2] Try.func148 C148_ok C148_res C148_nm 8 Try.ntmps148 [a0] [a0, .any, .any, .any, .any, .any, .any, .any] H Q h 7 (by kernel_rfl) (by kernel_rfl)

end Go.Proofs.Ytiomjlnojomneaa
