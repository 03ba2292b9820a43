/- The code of the functions, in the form of our laws; each is the program's own, by the kernel. Written by a program of ours. -/
import Derived.Test.YtpaflfaokgapgaaB0
import Derived.KernelRfl
namespace Go.Proofs.Ytpaflfaokgapgaa
open Go.Abs

/-- laws.eqNotice -/
def C80 : CC :=
 (.seq (.ops [⟨some 2, none, .box (.tmp 0)⟩,
   ⟨some 3, none, .box (.tmp 1)⟩,
   ⟨some 4, none, .mv (.const (.bool false))⟩])
 (.seq (.seq (.ops [⟨some 5, none, .fa 0 (.tmp 2)⟩,
    ⟨some 6, none, .load false 1 (.tmp 5)⟩,
    ⟨some 7, none, .fa 0 (.tmp 3)⟩,
    ⟨some 8, none, .load false 1 (.tmp 7)⟩,
    ⟨some 9, none, .bin .neq 0 (.tmp 6) (.tmp 8)⟩])
  (.cond (.tmp 9) (.seq (.ops [⟨some 4, none, .mv (.const (.bool false))⟩])
   .ret)
  .skip))
 (.seq (.seq (.ops [⟨some 10, none, .fa 1 (.tmp 2)⟩,
    ⟨some 11, none, .load false 1 (.tmp 10)⟩,
    ⟨some 12, none, .fa 1 (.tmp 3)⟩,
    ⟨some 13, none, .load false 1 (.tmp 12)⟩,
    ⟨some 14, none, .bin .neq 0 (.tmp 11) (.tmp 13)⟩])
  (.cond (.tmp 14) (.seq (.ops [⟨some 4, none, .mv (.const (.bool false))⟩])
   .ret)
  .skip))
 (.seq (.seq (.ops [⟨some 15, none, .fa 2 (.tmp 2)⟩,
    ⟨some 16, none, .load false 1 (.tmp 15)⟩,
    ⟨some 17, none, .fa 2 (.tmp 3)⟩,
    ⟨some 18, none, .load false 1 (.tmp 17)⟩,
    ⟨some 19, none, .bin .neq 0 (.tmp 16) (.tmp 18)⟩])
  (.cond (.tmp 19) (.seq (.ops [⟨some 4, none, .mv (.const (.bool false))⟩])
   .ret)
  .skip))
 (.seq (.seq (.ops [⟨some 20, none, .fa 3 (.tmp 2)⟩,
    ⟨some 21, none, .load false 1 (.tmp 20)⟩,
    ⟨some 22, none, .fa 3 (.tmp 3)⟩,
    ⟨some 23, none, .load false 1 (.tmp 22)⟩,
    ⟨some 24, none, .bin .neq 0 (.tmp 21) (.tmp 23)⟩])
  (.cond (.tmp 24) (.seq (.ops [⟨some 4, none, .mv (.const (.bool false))⟩])
   .ret)
  .skip))
 (.seq (.ops [⟨some 4, none, .mv (.const (.bool true))⟩])
 .ret))))))
theorem C80_ok : Try.f80.body.bind (comp Try.prog) = some C80 := by kernel_rfl
theorem C80_res : compRs Try.prog Try.f80.results.toList = some [.tmp 4] := by kernel_rfl
theorem C80_nm : (Try.f80.name == "runtime.NumGoroutine") = false := by kernel_rfl
theorem C80_fn {a0 a1 : AV} {H : Heap} {Q : AV → Heap → Prop} (h : vc Try.prog C80 (vcEnd [.tmp 4] Q) H [a0, a1, .any, .any, .any, .any, .any, .any, .any, .any, .any, .any, .any, .any, .any, .any, .any, .any, .any, .any, .any, .any, .any, .any, .any]) : Runs Try.prog 80 [a0, a1] H Q :=
  @fn_go Try.prog mixed 80 Try.f80 C80 [.tmp 4] Try.func80 C80_ok C80_res C80_nm 25 Try.ntmps80 [a0, a1] [a0, a1, .any, .any, .any, .any, .any, .any, .any, .any, .any, .any, .any, .any, .any, .any, .any, .any, .any, .any, .any, .any, .any, .any, .any] H Q h 23 (by kernel_rfl) (by kernel_rfl)

/-- laws.eqNoticeS -/
def C19 : CC :=
 (.seq (.ops [⟨some 4, none, .mv (.const (.bool false))⟩])
 (.seq (.seq (.ops [⟨some 6, none, .mv (.tmp 0)⟩,
    ⟨some 7, none, .len false (.tmp 6)⟩,
    ⟨some 8, none, .mv (.tmp 1)⟩,
    ⟨some 9, none, .len false (.tmp 8)⟩,
    ⟨some 10, none, .bin .neq 0 (.tmp 7) (.tmp 9)⟩])
  (.cond (.tmp 10) (.seq (.ops [⟨some 4, none, .mv (.const (.bool false))⟩])
   .ret)
  .skip))
 (.seq (.seq (.ops [⟨some 5, none, .mv (.const (.int .i64 0))⟩])
  (.block 0 (.loop (.seq (.seq (.ops [⟨some 11, none, .mv (.tmp 5)⟩,
       ⟨some 12, none, .mv (.tmp 0)⟩,
       ⟨some 13, none, .len false (.tmp 12)⟩,
       ⟨some 14, none, .bin .lss 0 (.tmp 11) (.tmp 13)⟩])
     (.cond (.tmp 14) .skip
     (.exit 0)))
    (.seq (.block 1 (.seq (.draw 10 [⟨some 17, none, .mv (.tmp 0)⟩,
        ⟨some 18, none, .mv (.tmp 5)⟩,
        ⟨some 19, none, .ia 4 (.tmp 17) (.tmp 18)⟩,
        ⟨some 20, none, .load true 4 (.tmp 19)⟩,
        ⟨some 21, none, .mv (.tmp 1)⟩,
        ⟨some 22, none, .mv (.tmp 5)⟩,
        ⟨some 23, none, .ia 4 (.tmp 21) (.tmp 22)⟩,
        ⟨some 24, none, .load true 4 (.tmp 23)⟩,
        ⟨some 25, none, .call (.func 80) [(.tmp 20), (.tmp 24)]⟩,
        ⟨some 26, none, .not (.tmp 25)⟩])
      (.cond (.tmp 26) (.seq (.ops [⟨some 4, none, .mv (.const (.bool false))⟩])
       .ret)
      .skip)))
    (.ops [⟨some 15, none, .mv (.tmp 5)⟩,
     ⟨some 16, none, .bin .add 0 (.tmp 15) (.const (.int .i64 1))⟩,
     ⟨some 5, none, .mv (.tmp 16)⟩]))))))
 (.seq (.ops [⟨some 4, none, .mv (.const (.bool true))⟩])
 .ret))))
theorem C19_ok : Try.f19.body.bind (comp Try.prog) = some C19 := by kernel_rfl
theorem C19_res : compRs Try.prog Try.f19.results.toList = some [.tmp 4] := by kernel_rfl
theorem C19_nm : (Try.f19.name == "runtime.NumGoroutine") = false := by kernel_rfl
theorem C19_fn {a0 a1 : AV} {H : Heap} {Q : AV → Heap → Prop} (h : vc Try.prog C19 (vcEnd [.tmp 4] Q) H [a0, a1, .any, .any, .any, .any, .any, .any, .any, .any, .any, .any, .any, .any, .any, .any, .any, .any, .any, .any, .any, .any, .any, .any, .any, .any, .any]) : Runs Try.prog 19 [a0, a1] H Q :=
  @fn_go Try.prog mixed 19 Try.f19 C19 [.tmp 4] Try.func19 C19_ok C19_res C19_nm 27 Try.ntmps19 [a0, a1] [a0, a1, .any, .any, .any, .any, .any, .any, .any, .any, .any, .any, .any, .any, .any, .any, .any, .any, .any, .any, .any, .any, .any, .any, .any, .any, .any] H Q h 25 (by kernel_rfl) (by kernel_rfl)

/-- laws.FnExactIsDiary -/
def C3 : CC :=
 (.seq (.ops [⟨some 2, none, .mv (.const (.bool false))⟩])
 (.seq (.ops [⟨some 3, none, .mv (.const (.int .i64 1048576))⟩])
 (.seq (.ops [⟨some 7, none, .mv (.tmp 0)⟩,
   ⟨some 8, none, .mv (.tmp 3)⟩,
   ⟨some 9, none, .call (.func 15) [(.tmp 7), (.tmp 8)]⟩,
   ⟨some 3, none, .mv (.tmp 9)⟩])
 (.seq (.seq (.ops [⟨some 10, none, .mv (.tmp 3)⟩,
    ⟨some 11, none, .bin .lss 0 (.tmp 10) (.const (.int .i64 0))⟩])
  (.cond (.tmp 11) (.seq (.ops [⟨some 2, none, .mv (.const (.bool true))⟩])
   .ret)
  .skip))
 (.seq (.ops [⟨some 12, none, .mv (.tmp 0)⟩,
   ⟨some 13, none, .call (.func 17) [(.tmp 12)]⟩,
   ⟨some 14, none, .call (.func 16) [(.tmp 13)]⟩,
   ⟨some 4, none, .mv (.tmp 14)⟩])
 (.seq (.ops [⟨some 15, none, .mv (.tmp 0)⟩,
   ⟨some 16, none, .call (.func 17) [(.tmp 15)]⟩,
   ⟨some 5, none, .mv (.tmp 16)⟩])
 (.seq (.ops [⟨some 17, none, .mv (.tmp 5)⟩,
   ⟨some 18, none, .call (.func 18) [(.tmp 17)]⟩,
   ⟨some 6, none, .mv (.tmp 18)⟩])
 (.seq (.seq (.ops [⟨some 19, none, .mv (.tmp 6)⟩,
    ⟨some 20, none, .mv (.tmp 4)⟩,
    ⟨some 21, none, .bin .neq 1 (.tmp 19) (.tmp 20)⟩])
  (.cond (.tmp 21) (.seq (.ops [⟨some 2, none, .mv (.const (.bool false))⟩])
   .ret)
  .skip))
 (.seq (.seq (.ops [⟨some 22, none, .mv (.tmp 5)⟩,
    ⟨some 23, none, .mv (.tmp 0)⟩,
    ⟨some 24, none, .call (.func 17) [(.tmp 23)]⟩,
    ⟨some 25, none, .call (.func 19) [(.tmp 22), (.tmp 24)]⟩,
    ⟨some 26, none, .not (.tmp 25)⟩])
  (.cond (.tmp 26) (.seq (.ops [⟨some 2, none, .mv (.const (.bool false))⟩])
   .ret)
  .skip))
 (.seq (.ops [⟨some 2, none, .mv (.const (.bool true))⟩])
 .ret))))))))))
theorem C3_ok : Try.f3.body.bind (comp Try.prog) = some C3 := by kernel_rfl
theorem C3_res : compRs Try.prog Try.f3.results.toList = some [.tmp 2] := by kernel_rfl
theorem C3_nm : (Try.f3.name == "runtime.NumGoroutine") = false := by kernel_rfl
theorem C3_fn {a0 : AV} {H : Heap} {Q : AV → Heap → Prop} (h : vc Try.prog C3 (vcEnd [.tmp 2] Q) H [a0, .any, .any, .any, .any, .any, .any, .any, .any, .any, .any, .any, .any, .any, .any, .any, .any, .any, .any, .any, .any, .any, .any, .any, .any, .any, .any]) : Runs Try.prog 3 [a0] H Q :=
  @fn_go Try.prog mixed 3 Try.f3 C3 [.tmp 2] Try.func3 C3_ok C3_res C3_nm 27 Try.ntmps3 [a0] [a0, .any, .any, .any, .any, .any, .any, .any, .any, .any, .any, .any, .any, .any, .any, .any, .any, .any, .any, .any, .any, .any, .any, .any, .any, .any, .any] H Q h 26 (by kernel_rfl) (by kernel_rfl)

/-- spec.l21Code -/
def C81 : CC :=
 (.seq (.ops [⟨some 6, none, .mv (.const (.int .i64 0))⟩])
 (.seq (.seq (.ops [⟨some 7, none, .mv (.tmp 0)⟩,
    ⟨some 8, none, .call (.func 16) [(.tmp 7)]⟩,
    ⟨some 9, none, .not (.tmp 8)⟩])
  (.cond (.tmp 9) (.seq (.ops [⟨some 6, none, .mv (.const (.int .i64 1))⟩])
   .ret)
  .skip))
 (.seq (.seq (.ops [⟨some 10, none, .mv (.tmp 1)⟩,
    ⟨some 11, none, .mv (.tmp 0)⟩,
    ⟨some 12, none, .len false (.tmp 11)⟩,
    ⟨some 13, none, .bin .sub 0 (.tmp 12) (.const (.int .i64 1))⟩,
    ⟨some 14, none, .call (.func 73) [(.tmp 10), (.const (.int .i64 0)), (.tmp 13)]⟩,
    ⟨some 15, none, .not (.tmp 14)⟩,
    ⟨some 16, none, .mv (.tmp 15)⟩,
    ⟨some 17, some (16, false), .mv (.tmp 2)⟩,
    ⟨some 18, some (16, false), .call (.func 72) [(.tmp 17)]⟩,
    ⟨some 19, some (16, false), .not (.tmp 18)⟩,
    ⟨some 20, none, .pick (.tmp 16) (.const (.bool true)) (.tmp 19)⟩])
  (.cond (.tmp 20) (.seq (.ops [⟨some 6, none, .mv (.const (.int .i64 2))⟩])
   .ret)
  .skip))
 (.seq (.ops [⟨some 6, none, .mv (.const (.int .i64 0))⟩])
 .ret))))
theorem C81_ok : Try.f81.body.bind (comp Try.prog) = some C81 := by kernel_rfl
theorem C81_res : compRs Try.prog Try.f81.results.toList = some [.tmp 6] := by kernel_rfl
theorem C81_nm : (Try.f81.name == "runtime.NumGoroutine") = false := by kernel_rfl
theorem C81_fn {a0 a1 a2 : AV} {H : Heap} {Q : AV → Heap → Prop} (h : vc Try.prog C81 (vcEnd [.tmp 6] Q) H [a0, a1, a2, .any, .any, .any, .any, .any, .any, .any, .any, .any, .any, .any, .any, .any, .any, .any, .any, .any, .any]) : Runs Try.prog 81 [a0, a1, a2] H Q :=
  @fn_go Try.prog mixed 81 Try.f81 C81 [.tmp 6] Try.func81 C81_ok C81_res C81_nm 21 Try.ntmps81 [a0, a1, a2] [a0, a1, a2, .any, .any, .any, .any, .any, .any, .any, .any, .any, .any, .any, .any, .any, .any, .any, .any, .any, .any] H Q h 18 (by kernel_rfl) (by kernel_rfl)

/-- spec.DueDay -/
def C20 : CC :=
 (.seq (.ops [⟨some 4, none, .mv (.const (.int .i64 0))⟩,
   ⟨some 5, none, .mv (.const (.int .i64 0))⟩])
 (.seq (.ops [⟨some 7, none, .mv (.tmp 0)⟩,
   ⟨some 8, none, .mv (.tmp 1)⟩,
   ⟨some 9, none, .call (.func 81) [(.tmp 7), (.tmp 8), (.const (.int .i64 0))]⟩,
   ⟨some 6, none, .mv (.tmp 9)⟩])
 (.seq (.seq (.ops [⟨some 10, none, .mv (.tmp 6)⟩,
    ⟨some 11, none, .bin .neq 0 (.tmp 10) (.const (.int .i64 0))⟩])
  (.cond (.tmp 11) (.seq (.ops [⟨some 12, none, .mv (.tmp 6)⟩,
     ⟨some 4, none, .mv (.const (.int .i64 0))⟩,
     ⟨some 5, none, .mv (.tmp 12)⟩])
   .ret)
  .skip))
 (.seq (.ops [⟨some 13, none, .mv (.tmp 0)⟩,
   ⟨some 14, none, .mv (.tmp 1)⟩,
   ⟨some 15, none, .ia 4 (.tmp 13) (.tmp 14)⟩,
   ⟨some 16, none, .load true 4 (.tmp 15)⟩,
   ⟨some 17, none, .call (.func 82) [(.tmp 16)]⟩,
   ⟨some 4, none, .mv (.tmp 17)⟩,
   ⟨some 5, none, .mv (.const (.int .i64 0))⟩])
 .ret))))
theorem C20_ok : Try.f20.body.bind (comp Try.prog) = some C20 := by kernel_rfl
theorem C20_res : compRs Try.prog Try.f20.results.toList = some [.tmp 4, .tmp 5] := by kernel_rfl
theorem C20_nm : (Try.f20.name == "runtime.NumGoroutine") = false := by kernel_rfl
theorem C20_fn {a0 a1 : AV} {H : Heap} {Q : AV → Heap → Prop} (h : vc Try.prog C20 (vcEnd [.tmp 4, .tmp 5] Q) H [a0, a1, .any, .any, .any, .any, .any, .any, .any, .any, .any, .any, .any, .any, .any, .any, .any, .any]) : Runs Try.prog 20 [a0, a1] H Q :=
  @fn_go Try.prog mixed 20 Try.f20 C20 [.tmp 4, .tmp 5] Try.func20 C20_ok C20_res C20_nm 18 Try.ntmps20 [a0, a1] [a0, a1, .any, .any, .any, .any, .any, .any, .any, .any, .any, .any, .any, .any, .any, .any, .any, .any] H Q h 16 (by kernel_rfl) (by kernel_rfl)

/-- impl.count[impl.Notice] -/
def C121 : CC :=
 (.seq (.ops [⟨some 2, none, .mv (.const (.int .i64 0))⟩])
 (.seq (.ops [⟨some 3, none, .mv (.tmp 0)⟩,
   ⟨some 4, none, .len false (.tmp 3)⟩,
   ⟨some 2, none, .mv (.tmp 4)⟩])
 .ret))
theorem C121_ok : Try.f121.body.bind (comp Try.prog) = some C121 := by kernel_rfl
theorem C121_res : compRs Try.prog Try.f121.results.toList = some [.tmp 2] := by kernel_rfl
theorem C121_nm : (Try.f121.name == "runtime.NumGoroutine") = false := by kernel_rfl
theorem C121_fn {a0 : AV} {H : Heap} {Q : AV → Heap → Prop} (h : vc Try.prog C121 (vcEnd [.tmp 2] Q) H [a0, .any, .any, .any, .any]) : Runs Try.prog 121 [a0] H Q :=
  @fn_go Try.prog mixed 121 Try.f121 C121 [.tmp 2] Try.func121 C121_ok C121_res C121_nm 5 Try.ntmps121 [a0] [a0, .any, .any, .any, .any] H Q h 4 (by kernel_rfl) (by kernel_rfl)

/-- slices.IndexFunc[[]int64,int64] -/
def C163 : CC :=
 (.seq (.ops [⟨some 4, none, .mv (.const (.int .i64 0))⟩])
 (.seq (.seq (.ops [⟨some 6, none, .mv (.tmp 0)⟩,
    ⟨some 7, none, .len false (.tmp 6)⟩,
    ⟨some 8, none, .mv (.const (.int .i64 0))⟩])
  (.block 0 (.loop (.seq (.ops [⟨some 9, none, .bin .lss 0 (.tmp 8) (.tmp 7)⟩])
    (.seq (.cond (.tmp 9) .skip
     (.exit 0))
    (.seq (.block 1 (.seq (.ops [⟨some 10, none, .mv (.tmp 8)⟩,
        ⟨some 5, none, .mv (.tmp 10)⟩])
      (.seq (.ops [⟨some 11, none, .mv (.tmp 1)⟩,
        ⟨some 12, none, .mv (.tmp 0)⟩,
        ⟨some 13, none, .mv (.tmp 5)⟩,
        ⟨some 14, none, .ia 1 (.tmp 12) (.tmp 13)⟩,
        ⟨some 15, none, .load false 1 (.tmp 14)⟩,
        ⟨some 16, none, .call (.tmp 11) [(.tmp 15)]⟩])
      (.cond (.tmp 16) (.seq (.ops [⟨some 17, none, .mv (.tmp 5)⟩,
         ⟨some 4, none, .mv (.tmp 17)⟩])
       .ret)
      .skip))))
    (.ops [⟨some 18, none, .bin .add 0 (.tmp 8) (.const (.int .i64 1))⟩,
     ⟨some 8, none, .mv (.tmp 18)⟩])))))))
 (.seq (.ops [⟨some 4, none, .mv (.const (.int .i64 (-1)))⟩])
 .ret)))
theorem C163_ok : Try.f163.body.bind (comp Try.prog) = some C163 := by kernel_rfl
theorem C163_res : compRs Try.prog Try.f163.results.toList = some [.tmp 4] := by kernel_rfl
theorem C163_nm : (Try.f163.name == "runtime.NumGoroutine") = false := by kernel_rfl
theorem C163_fn {a0 a1 : AV} {H : Heap} {Q : AV → Heap → Prop} (h : vc Try.prog C163 (vcEnd [.tmp 4] Q) H [a0, a1, .any, .any, .any, .any, .any, .any, .any, .any, .any, .any, .any, .any, .any, .any, .any, .any, .any]) : Runs Try.prog 163 [a0, a1] H Q :=
  @fn_go Try.prog mixed 163 Try.f163 C163 [.tmp 4] Try.func163 C163_ok C163_res C163_nm 19 Try.ntmps163 [a0, a1] [a0, a1, .any, .any, .any, .any, .any, .any, .any, .any, .any, .any, .any, .any, .any, .any, .any, .any, .any] H Q h 17 (by kernel_rfl) (by kernel_rfl)

/-- slices.ContainsFunc[[]int64,int64] -/
def C148 : CC :=
 (.seq (.ops [⟨some 4, none, .mv (.const (.bool false))⟩])
 (.seq (.ops [⟨some 5, none, .mv (.tmp 0)⟩,
   ⟨some 6, none, .mv (.tmp 1)⟩,
   ⟨some 7, none, .call (.func 163) [(.tmp 5), (.tmp 6)]⟩,
   ⟨some 8, none, .bin .geq 0 (.tmp 7) (.const (.int .i64 0))⟩,
   ⟨some 4, none, .mv (.tmp 8)⟩])
 .ret))
theorem C148_ok : Try.f148.body.bind (comp Try.prog) = some C148 := by kernel_rfl
theorem C148_res : compRs Try.prog Try.f148.results.toList = some [.tmp 4] := by kernel_rfl
theorem C148_nm : (Try.f148.name == "runtime.NumGoroutine") = false := by kernel_rfl
theorem C148_fn {a0 a1 : AV} {H : Heap} {Q : AV → Heap → Prop} (h : vc Try.prog C148 (vcEnd [.tmp 4] Q) H [a0, a1, .any, .any, .any, .any, .any, .any, .any]) : Runs Try.prog 148 [a0, a1] H Q :=
  @fn_go Try.prog mixed 148 Try.f148 C148 [.tmp 4] Try.func148 C148_ok C148_res C148_nm 9 Try.ntmps148 [a0, a1] [a0, a1, .any, .any, .any, .any, .any, .any, .any] H Q h 7 (by kernel_rfl) (by kernel_rfl)

/-- impl.all[int64]$1 -/
def C149 : CC :=
 (.seq (.ops [⟨some 3, none, .mv (.const (.bool false))⟩])
 (.seq (.ops [⟨some 4, none, .load false 1 (.tmp 1)⟩,
   ⟨some 5, none, .mv (.tmp 0)⟩,
   ⟨some 6, none, .call (.tmp 4) [(.tmp 5)]⟩,
   ⟨some 7, none, .not (.tmp 6)⟩,
   ⟨some 3, none, .mv (.tmp 7)⟩])
 .ret))
theorem C149_ok : Try.f149.body.bind (comp Try.prog) = some C149 := by kernel_rfl
theorem C149_res : compRs Try.prog Try.f149.results.toList = some [.tmp 3] := by kernel_rfl
theorem C149_nm : (Try.f149.name == "runtime.NumGoroutine") = false := by kernel_rfl
theorem C149_fn {a0 a1 : AV} {H : Heap} {Q : AV → Heap → Prop} (h : vc Try.prog C149 (vcEnd [.tmp 3] Q) H [a0, a1, .any, .any, .any, .any, .any, .any]) : Runs Try.prog 149 [a0, a1] H Q :=
  @fn_go Try.prog mixed 149 Try.f149 C149 [.tmp 3] Try.func149 C149_ok C149_res C149_nm 8 Try.ntmps149 [a0, a1] [a0, a1, .any, .any, .any, .any, .any, .any] H Q h 6 (by kernel_rfl) (by kernel_rfl)

/-- impl.all[int64] -/
def C122 : CC :=
 (.seq (.ops [⟨some 3, none, .box (.tmp 1)⟩,
   ⟨some 4, none, .mv (.const (.bool false))⟩])
 (.seq (.ops [⟨some 5, none, .mv (.tmp 0)⟩,
   ⟨some 6, none, .mkf 149 [(.tmp 3)]⟩,
   ⟨some 7, none, .call (.func 148) [(.tmp 5), (.tmp 6)]⟩,
   ⟨some 8, none, .not (.tmp 7)⟩,
   ⟨some 4, none, .mv (.tmp 8)⟩])
 .ret))
theorem C122_ok : Try.f122.body.bind (comp Try.prog) = some C122 := by kernel_rfl
theorem C122_res : compRs Try.prog Try.f122.results.toList = some [.tmp 4] := by kernel_rfl
theorem C122_nm : (Try.f122.name == "runtime.NumGoroutine") = false := by kernel_rfl
theorem C122_fn {a0 a1 : AV} {H : Heap} {Q : AV → Heap → Prop} (h : vc Try.prog C122 (vcEnd [.tmp 4] Q) H [a0, a1, .any, .any, .any, .any, .any, .any, .any]) : Runs Try.prog 122 [a0, a1] H Q :=
  @fn_go Try.prog mixed 122 Try.f122 C122 [.tmp 4] Try.func122 C122_ok C122_res C122_nm 9 Try.ntmps122 [a0, a1] [a0, a1, .any, .any, .any, .any, .any, .any, .any] H Q h 7 (by kernel_rfl) (by kernel_rfl)

/-- impl.noticed -/
def C83 : CC :=
 (.seq (.ops [⟨some 6, none, .mv (.const (.int .i64 0))⟩])
 (.seq (.block 0 (.seq (.ops [⟨some 8, none, .mv (.tmp 0)⟩,
     ⟨some 9, none, .call (.func 18) [(.tmp 8)]⟩,
     ⟨some 10, none, .not (.tmp 9)⟩,
     ⟨some 7, none, .mv (.tmp 10)⟩])
   (.cond (.tmp 7) (.seq (.ops [⟨some 6, none, .mv (.const (.int .i64 1))⟩])
    .ret)
   (.seq (.ops [⟨some 12, none, .mv (.tmp 1)⟩,
      ⟨some 13, none, .mv (.tmp 0)⟩,
      ⟨some 14, none, .call (.func 121) [(.tmp 13)]⟩,
      ⟨some 15, none, .bin .sub 0 (.tmp 14) (.const (.int .i64 1))⟩,
      ⟨some 16, none, .call (.func 120) [(.tmp 12), (.const (.int .i64 0)), (.tmp 15)]⟩,
      ⟨some 17, none, .not (.tmp 16)⟩,
      ⟨some 18, none, .mv (.tmp 17)⟩,
      ⟨some 19, some (18, false), .mv (.tmp 2)⟩,
      ⟨some 20, some (18, false), .call (.func 122) [(.tmp 19), (.func 119)]⟩,
      ⟨some 21, some (18, false), .not (.tmp 20)⟩,
      ⟨some 22, none, .pick (.tmp 18) (.const (.bool true)) (.tmp 21)⟩,
      ⟨some 11, none, .mv (.tmp 22)⟩])
    (.cond (.tmp 11) (.seq (.ops [⟨some 6, none, .mv (.const (.int .i64 2))⟩])
     .ret)
    .skip)))))
 (.seq (.ops [⟨some 6, none, .mv (.const (.int .i64 0))⟩])
 .ret)))
theorem C83_ok : Try.f83.body.bind (comp Try.prog) = some C83 := by kernel_rfl
theorem C83_res : compRs Try.prog Try.f83.results.toList = some [.tmp 6] := by kernel_rfl
theorem C83_nm : (Try.f83.name == "runtime.NumGoroutine") = false := by kernel_rfl
theorem C83_fn {a0 a1 a2 : AV} {H : Heap} {Q : AV → Heap → Prop} (h : vc Try.prog C83 (vcEnd [.tmp 6] Q) H [a0, a1, a2, .any, .any, .any, .any, .any, .any, .any, .any, .any, .any, .any, .any, .any, .any, .any, .any, .any, .any, .any, .any]) : Runs Try.prog 83 [a0, a1, a2] H Q :=
  @fn_go Try.prog mixed 83 Try.f83 C83 [.tmp 6] Try.func83 C83_ok C83_res C83_nm 23 Try.ntmps83 [a0, a1, a2] [a0, a1, a2, .any, .any, .any, .any, .any, .any, .any, .any, .any, .any, .any, .any, .any, .any, .any, .any, .any, .any, .any, .any] H Q h 20 (by kernel_rfl) (by kernel_rfl)

/-- impl.DueDay -/
def C21 : CC :=
 (.seq (.ops [⟨some 4, none, .mv (.const (.int .i64 0))⟩,
   ⟨some 5, none, .mv (.const (.int .i64 0))⟩])
 (.seq (.seq (.ops [⟨some 7, none, .mv (.tmp 0)⟩,
    ⟨some 8, none, .mv (.tmp 1)⟩,
    ⟨some 9, none, .call (.func 83) [(.tmp 7), (.tmp 8), (.const (.slice none 0 0))]⟩,
    ⟨some 6, none, .mv (.tmp 9)⟩])
  (.seq (.ops [⟨some 10, none, .mv (.tmp 6)⟩,
    ⟨some 11, none, .bin .neq 0 (.tmp 10) (.const (.int .i64 0))⟩])
  (.cond (.tmp 11) (.seq (.ops [⟨some 12, none, .mv (.tmp 6)⟩,
     ⟨some 4, none, .mv (.const (.int .i64 0))⟩,
     ⟨some 5, none, .mv (.tmp 12)⟩])
   .ret)
  .skip)))
 (.seq (.ops [⟨some 13, none, .mv (.tmp 0)⟩,
   ⟨some 14, none, .mv (.tmp 1)⟩,
   ⟨some 15, none, .ia 4 (.tmp 13) (.tmp 14)⟩,
   ⟨some 16, none, .load true 4 (.tmp 15)⟩,
   ⟨some 17, none, .call (.func 84) [(.tmp 16)]⟩,
   ⟨some 4, none, .mv (.tmp 17)⟩,
   ⟨some 5, none, .mv (.const (.int .i64 0))⟩])
 .ret)))
theorem C21_ok : Try.f21.body.bind (comp Try.prog) = some C21 := by kernel_rfl
theorem C21_res : compRs Try.prog Try.f21.results.toList = some [.tmp 4, .tmp 5] := by kernel_rfl
theorem C21_nm : (Try.f21.name == "runtime.NumGoroutine") = false := by kernel_rfl
theorem C21_fn {a0 a1 : AV} {H : Heap} {Q : AV → Heap → Prop} (h : vc Try.prog C21 (vcEnd [.tmp 4, .tmp 5] Q) H [a0, a1, .any, .any, .any, .any, .any, .any, .any, .any, .any, .any, .any, .any, .any, .any, .any, .any]) : Runs Try.prog 21 [a0, a1] H Q :=
  @fn_go Try.prog mixed 21 Try.f21 C21 [.tmp 4, .tmp 5] Try.func21 C21_ok C21_res C21_nm 18 Try.ntmps21 [a0, a1] [a0, a1, .any, .any, .any, .any, .any, .any, .any, .any, .any, .any, .any, .any, .any, .any, .any, .any] H Q h 16 (by kernel_rfl) (by kernel_rfl)

/-- laws.FnExactDueDay -/
def C4 : CC :=
 (.seq (.ops [⟨some 4, none, .mv (.const (.bool false))⟩])
 (.seq (.ops [⟨some 5, none, .mv (.const (.int .i64 1048576))⟩])
 (.seq (.ops [⟨some 11, none, .mv (.tmp 0)⟩,
   ⟨some 12, none, .mv (.tmp 5)⟩,
   ⟨some 13, none, .call (.func 15) [(.tmp 11), (.tmp 12)]⟩,
   ⟨some 5, none, .mv (.tmp 13)⟩])
 (.seq (.seq (.ops [⟨some 14, none, .mv (.tmp 5)⟩,
    ⟨some 15, none, .bin .lss 0 (.tmp 14) (.const (.int .i64 0))⟩])
  (.cond (.tmp 15) (.seq (.ops [⟨some 4, none, .mv (.const (.bool true))⟩])
   .ret)
  .skip))
 (.seq (.ops [⟨some 17, none, .mv (.tmp 0)⟩,
   ⟨some 18, none, .call (.func 17) [(.tmp 17)]⟩,
   ⟨some 19, none, .mv (.tmp 1)⟩,
   ⟨some 20, none, .call (.func 20) [(.tmp 18), (.tmp 19)]⟩,
   ⟨some 16, none, .mv (.tmp 20)⟩,
   ⟨some 21, none, .ext (.tmp 16) 0⟩,
   ⟨some 22, none, .ext (.tmp 16) 1⟩,
   ⟨some 6, none, .mv (.tmp 21)⟩,
   ⟨some 7, none, .mv (.tmp 22)⟩])
 (.seq (.ops [⟨some 23, none, .mv (.tmp 0)⟩,
   ⟨some 24, none, .call (.func 17) [(.tmp 23)]⟩,
   ⟨some 8, none, .mv (.tmp 24)⟩])
 (.seq (.ops [⟨some 26, none, .mv (.tmp 8)⟩,
   ⟨some 27, none, .mv (.tmp 1)⟩,
   ⟨some 28, none, .call (.func 21) [(.tmp 26), (.tmp 27)]⟩,
   ⟨some 25, none, .mv (.tmp 28)⟩,
   ⟨some 29, none, .ext (.tmp 25) 0⟩,
   ⟨some 30, none, .ext (.tmp 25) 1⟩,
   ⟨some 9, none, .mv (.tmp 29)⟩,
   ⟨some 10, none, .mv (.tmp 30)⟩])
 (.seq (.seq (.ops [⟨some 31, none, .mv (.tmp 9)⟩,
    ⟨some 32, none, .mv (.tmp 6)⟩,
    ⟨some 33, none, .bin .neq 0 (.tmp 31) (.tmp 32)⟩,
    ⟨some 34, none, .mv (.tmp 33)⟩,
    ⟨some 35, some (34, false), .mv (.tmp 10)⟩,
    ⟨some 36, some (34, false), .mv (.tmp 7)⟩,
    ⟨some 37, some (34, false), .bin .neq 0 (.tmp 35) (.tmp 36)⟩,
    ⟨some 38, none, .pick (.tmp 34) (.const (.bool true)) (.tmp 37)⟩])
  (.cond (.tmp 38) (.seq (.ops [⟨some 4, none, .mv (.const (.bool false))⟩])
   .ret)
  .skip))
 (.seq (.seq (.ops [⟨some 39, none, .mv (.tmp 8)⟩,
    ⟨some 40, none, .mv (.tmp 0)⟩,
    ⟨some 41, none, .call (.func 17) [(.tmp 40)]⟩,
    ⟨some 42, none, .call (.func 19) [(.tmp 39), (.tmp 41)]⟩,
    ⟨some 43, none, .not (.tmp 42)⟩])
  (.cond (.tmp 43) (.seq (.ops [⟨some 4, none, .mv (.const (.bool false))⟩])
   .ret)
  .skip))
 (.seq (.ops [⟨some 4, none, .mv (.const (.bool true))⟩])
 .ret))))))))))
theorem C4_ok : Try.f4.body.bind (comp Try.prog) = some C4 := by kernel_rfl
theorem C4_res : compRs Try.prog Try.f4.results.toList = some [.tmp 4] := by kernel_rfl
theorem C4_nm : (Try.f4.name == "runtime.NumGoroutine") = false := by kernel_rfl
theorem C4_fn {a0 a1 : AV} {H : Heap} {Q : AV → Heap → Prop} (h : vc Try.prog C4 (vcEnd [.tmp 4] Q) H [a0, a1, .any, .any, .any, .any, .any, .any, .any, .any, .any, .any, .any, .any, .any, .any, .any, .any, .any, .any, .any, .any, .any, .any, .any, .any, .any, .any, .any, .any, .any, .any, .any, .any, .any, .any, .any, .any, .any, .any, .any, .any, .any, .any]) : Runs Try.prog 4 [a0, a1] H Q :=
  @fn_go Try.prog mixed 4 Try.f4 C4 [.tmp 4] Try.func4 C4_ok C4_res C4_nm 44 Try.ntmps4 [a0, a1] [a0, a1, .any, .any, .any, .any, .any, .any, .any, .any, .any, .any, .any, .any, .any, .any, .any, .any, .any, .any, .any, .any, .any, .any, .any, .any, .any, .any, .any, .any, .any, .any, .any, .any, .any, .any, .any, .any, .any, .any, .any, .any, .any, .any] H Q h 42 (by kernel_rfl) (by kernel_rfl)

/-- spec.NextAction -/
def C22 : CC :=
 (.seq (.ops [⟨some 4, none, .mv (.const (.int .i64 0))⟩,
   ⟨some 5, none, .mv (.const (.int .i64 0))⟩,
   ⟨some 6, none, .mv (.const (.int .i64 0))⟩])
 (.seq (.seq (.ops [⟨some 12, none, .mv (.tmp 0)⟩,
    ⟨some 13, none, .call (.func 16) [(.tmp 12)]⟩,
    ⟨some 14, none, .not (.tmp 13)⟩])
  (.cond (.tmp 14) (.seq (.ops [⟨some 4, none, .mv (.const (.int .i64 0))⟩,
     ⟨some 5, none, .mv (.const (.int .i64 0))⟩,
     ⟨some 6, none, .mv (.const (.int .i64 1))⟩])
   .ret)
  .skip))
 (.seq (.seq (.ops [⟨some 15, none, .mv (.tmp 1)⟩,
    ⟨some 16, none, .call (.func 72) [(.tmp 15)]⟩,
    ⟨some 17, none, .not (.tmp 16)⟩])
  (.cond (.tmp 17) (.seq (.ops [⟨some 4, none, .mv (.const (.int .i64 0))⟩,
     ⟨some 5, none, .mv (.const (.int .i64 0))⟩,
     ⟨some 6, none, .mv (.const (.int .i64 2))⟩])
   .ret)
  .skip))
 (.seq (.ops [⟨some 7, none, .mv (.const (.int .i64 (-1)))⟩,
   ⟨some 8, none, .mv (.const (.int .i64 0))⟩])
 (.seq (.seq (.ops [⟨some 9, none, .mv (.const (.int .i64 0))⟩])
  (.block 0 (.loop (.seq (.seq (.ops [⟨some 18, none, .mv (.tmp 9)⟩,
       ⟨some 19, none, .mv (.tmp 0)⟩,
       ⟨some 20, none, .len false (.tmp 19)⟩,
       ⟨some 21, none, .bin .lss 0 (.tmp 18) (.tmp 20)⟩])
     (.cond (.tmp 21) .skip
     (.exit 0)))
    (.seq (.block 1 (.seq (.ops [⟨some 24, none, .mv (.tmp 0)⟩,
        ⟨some 25, none, .mv (.tmp 9)⟩,
        ⟨some 26, none, .ia 4 (.tmp 24) (.tmp 25)⟩,
        ⟨some 27, none, .load true 4 (.tmp 26)⟩,
        ⟨some 28, none, .call (.func 74) [(.tmp 27)]⟩,
        ⟨some 10, none, .mv (.tmp 28)⟩])
      (.seq (.ops [⟨some 11, none, .mv (.const (.int .i64 0))⟩])
      (.block 2 (.loop (.seq (.seq (.ops [⟨some 29, none, .mv (.tmp 11)⟩,
           ⟨some 30, none, .mv (.tmp 10)⟩,
           ⟨some 31, none, .len false (.tmp 30)⟩,
           ⟨some 32, none, .bin .lss 0 (.tmp 29) (.tmp 31)⟩,
           ⟨some 33, none, .mv (.tmp 32)⟩,
           ⟨some 34, some (33, true), .mv (.tmp 0)⟩,
           ⟨some 35, some (33, true), .mv (.tmp 9)⟩,
           ⟨some 36, some (33, true), .ia 4 (.tmp 34) (.tmp 35)⟩,
           ⟨some 37, some (33, true), .fa 3 (.tmp 36)⟩,
           ⟨some 38, some (33, true), .load false 1 (.tmp 37)⟩,
           ⟨some 39, some (33, true), .bin .eql 0 (.tmp 38) (.const (.int .i64 (-1)))⟩,
           ⟨some 40, none, .pick (.tmp 33) (.tmp 39) (.const (.bool false))⟩])
         (.cond (.tmp 40) .skip
         (.exit 2)))
        (.seq (.block 3 (.seq (.ops [⟨some 43, none, .mv (.tmp 10)⟩,
            ⟨some 44, none, .mv (.tmp 11)⟩,
            ⟨some 45, none, .ia 1 (.tmp 43) (.tmp 44)⟩,
            ⟨some 46, none, .load false 1 (.tmp 45)⟩,
            ⟨some 47, none, .mv (.tmp 1)⟩,
            ⟨some 48, none, .bin .gtr 0 (.tmp 46) (.tmp 47)⟩,
            ⟨some 49, none, .mv (.tmp 48)⟩,
            ⟨some 50, some (49, true), .mv (.tmp 7)⟩,
            ⟨some 51, some (49, true), .bin .lss 0 (.tmp 50) (.const (.int .i64 0))⟩,
            ⟨some 52, some (49, true), .mv (.tmp 51)⟩,
            ⟨some 53, some (52, false), .mv (.tmp 10)⟩,
            ⟨some 54, some (52, false), .mv (.tmp 11)⟩,
            ⟨some 55, some (52, false), .ia 1 (.tmp 53) (.tmp 54)⟩,
            ⟨some 56, some (52, false), .load false 1 (.tmp 55)⟩,
            ⟨some 57, some (52, false), .mv (.tmp 7)⟩,
            ⟨some 58, some (52, false), .bin .lss 0 (.tmp 56) (.tmp 57)⟩,
            ⟨some 59, some (49, true), .pick (.tmp 52) (.const (.bool true)) (.tmp 58)⟩,
            ⟨some 60, none, .pick (.tmp 49) (.tmp 59) (.const (.bool false))⟩])
          (.cond (.tmp 60) (.seq (.ops [⟨some 61, none, .mv (.tmp 10)⟩,
             ⟨some 62, none, .mv (.tmp 11)⟩,
             ⟨some 63, none, .ia 1 (.tmp 61) (.tmp 62)⟩,
             ⟨some 64, none, .load false 1 (.tmp 63)⟩,
             ⟨some 7, none, .mv (.tmp 64)⟩])
           (.ops [⟨some 65, none, .mv (.tmp 9)⟩,
            ⟨some 8, none, .mv (.tmp 65)⟩]))
          .skip)))
        (.ops [⟨some 41, none, .mv (.tmp 11)⟩,
         ⟨some 42, none, .bin .add 0 (.tmp 41) (.const (.int .i64 1))⟩,
         ⟨some 11, none, .mv (.tmp 42)⟩]))))))))
    (.ops [⟨some 22, none, .mv (.tmp 9)⟩,
     ⟨some 23, none, .bin .add 0 (.tmp 22) (.const (.int .i64 1))⟩,
     ⟨some 9, none, .mv (.tmp 23)⟩]))))))
 (.seq (.seq (.ops [⟨some 66, none, .mv (.tmp 7)⟩,
    ⟨some 67, none, .bin .lss 0 (.tmp 66) (.const (.int .i64 0))⟩])
  (.cond (.tmp 67) (.seq (.ops [⟨some 4, none, .mv (.const (.int .i64 0))⟩,
     ⟨some 5, none, .mv (.const (.int .i64 0))⟩,
     ⟨some 6, none, .mv (.const (.int .i64 4))⟩])
   .ret)
  .skip))
 (.seq (.ops [⟨some 68, none, .mv (.tmp 7)⟩,
   ⟨some 69, none, .mv (.tmp 8)⟩,
   ⟨some 4, none, .mv (.tmp 68)⟩,
   ⟨some 5, none, .mv (.tmp 69)⟩,
   ⟨some 6, none, .mv (.const (.int .i64 0))⟩])
 .ret)))))))
theorem C22_ok : Try.f22.body.bind (comp Try.prog) = some C22 := by kernel_rfl
theorem C22_res : compRs Try.prog Try.f22.results.toList = some [.tmp 4, .tmp 5, .tmp 6] := by kernel_rfl
theorem C22_nm : (Try.f22.name == "runtime.NumGoroutine") = false := by kernel_rfl
theorem C22_fn {a0 a1 : AV} {H : Heap} {Q : AV → Heap → Prop} (h : vc Try.prog C22 (vcEnd [.tmp 4, .tmp 5, .tmp 6] Q) H [a0, a1, .any, .any, .any, .any, .any, .any, .any, .any, .any, .any, .any, .any, .any, .any, .any, .any, .any, .any, .any, .any, .any, .any, .any, .any, .any, .any, .any, .any, .any, .any, .any, .any, .any, .any, .any, .any, .any, .any, .any, .any, .any, .any, .any, .any, .any, .any, .any, .any, .any, .any, .any, .any, .any, .any, .any, .any, .any, .any, .any, .any, .any, .any, .any, .any, .any, .any, .any, .any]) : Runs Try.prog 22 [a0, a1] H Q :=
  @fn_go Try.prog mixed 22 Try.f22 C22 [.tmp 4, .tmp 5, .tmp 6] Try.func22 C22_ok C22_res C22_nm 70 Try.ntmps22 [a0, a1] [a0, a1, .any, .any, .any, .any, .any, .any, .any, .any, .any, .any, .any, .any, .any, .any, .any, .any, .any, .any, .any, .any, .any, .any, .any, .any, .any, .any, .any, .any, .any, .any, .any, .any, .any, .any, .any, .any, .any, .any, .any, .any, .any, .any, .any, .any, .any, .any, .any, .any, .any, .any, .any, .any, .any, .any, .any, .any, .any, .any, .any, .any, .any, .any, .any, .any, .any, .any, .any, .any] H Q h 68 (by kernel_rfl) (by kernel_rfl)

/-- impl.dated -/
def C85 : CC :=
 (.seq (.ops [⟨some 4, none, .mv (.const (.int .i64 0))⟩])
 (.seq (.block 0 (.seq (.ops [⟨some 6, none, .mv (.tmp 0)⟩,
     ⟨some 7, none, .call (.func 18) [(.tmp 6)]⟩,
     ⟨some 8, none, .not (.tmp 7)⟩,
     ⟨some 5, none, .mv (.tmp 8)⟩])
   (.cond (.tmp 5) (.seq (.ops [⟨some 4, none, .mv (.const (.int .i64 1))⟩])
    .ret)
   (.seq (.ops [⟨some 10, none, .mv (.tmp 1)⟩,
      ⟨some 11, none, .call (.func 119) [(.tmp 10)]⟩,
      ⟨some 12, none, .not (.tmp 11)⟩,
      ⟨some 9, none, .mv (.tmp 12)⟩])
    (.cond (.tmp 9) (.seq (.ops [⟨some 4, none, .mv (.const (.int .i64 2))⟩])
     .ret)
    .skip)))))
 (.seq (.ops [⟨some 4, none, .mv (.const (.int .i64 0))⟩])
 .ret)))
theorem C85_ok : Try.f85.body.bind (comp Try.prog) = some C85 := by kernel_rfl
theorem C85_res : compRs Try.prog Try.f85.results.toList = some [.tmp 4] := by kernel_rfl
theorem C85_nm : (Try.f85.name == "runtime.NumGoroutine") = false := by kernel_rfl
theorem C85_fn {a0 a1 : AV} {H : Heap} {Q : AV → Heap → Prop} (h : vc Try.prog C85 (vcEnd [.tmp 4] Q) H [a0, a1, .any, .any, .any, .any, .any, .any, .any, .any, .any, .any, .any]) : Runs Try.prog 85 [a0, a1] H Q :=
  @fn_go Try.prog mixed 85 Try.f85 C85 [.tmp 4] Try.func85 C85_ok C85_res C85_nm 13 Try.ntmps85 [a0, a1] [a0, a1, .any, .any, .any, .any, .any, .any, .any, .any, .any, .any, .any] H Q h 11 (by kernel_rfl) (by kernel_rfl)

/-- impl.NextAction -/
def C23 : CC :=
 (.seq (.ops [⟨some 4, none, .mv (.const (.int .i64 0))⟩,
   ⟨some 5, none, .mv (.const (.int .i64 0))⟩,
   ⟨some 6, none, .mv (.const (.int .i64 0))⟩])
 (.seq (.seq (.ops [⟨some 14, none, .mv (.tmp 0)⟩,
    ⟨some 15, none, .mv (.tmp 1)⟩,
    ⟨some 16, none, .call (.func 85) [(.tmp 14), (.tmp 15)]⟩,
    ⟨some 7, none, .mv (.tmp 16)⟩])
  (.seq (.ops [⟨some 17, none, .mv (.tmp 7)⟩,
    ⟨some 18, none, .bin .neq 0 (.tmp 17) (.const (.int .i64 0))⟩])
  (.cond (.tmp 18) (.seq (.ops [⟨some 19, none, .mv (.tmp 7)⟩,
     ⟨some 4, none, .mv (.const (.int .i64 0))⟩,
     ⟨some 5, none, .mv (.const (.int .i64 0))⟩,
     ⟨some 6, none, .mv (.tmp 19)⟩])
   .ret)
  .skip)))
 (.seq (.ops [⟨some 8, none, .mv (.const (.int .i64 0))⟩,
   ⟨some 9, none, .mv (.const (.int .i64 (-1)))⟩])
 (.seq (.seq (.ops [⟨some 20, none, .mv (.tmp 0)⟩,
    ⟨some 21, none, .len false (.tmp 20)⟩,
    ⟨some 22, none, .mv (.const (.int .i64 0))⟩])
  (.block 0 (.loop (.seq (.ops [⟨some 23, none, .bin .lss 0 (.tmp 22) (.tmp 21)⟩])
    (.seq (.cond (.tmp 23) .skip
     (.exit 0))
    (.seq (.block 1 (.seq (.ops [⟨some 24, none, .mv (.tmp 22)⟩,
        ⟨some 25, none, .ia 4 (.tmp 20) (.tmp 22)⟩,
        ⟨some 26, none, .load true 4 (.tmp 25)⟩,
        ⟨some 11, none, .alloc [.string ⟨#[]⟩, .int .i64 0, .int .i64 0, .int .i64 0]⟩,
        ⟨some 10, none, .mv (.tmp 24)⟩,
        ⟨none, none, .store 4 (.tmp 11) (.tmp 26)⟩])
      (.seq (.ops [⟨some 27, none, .load true 4 (.tmp 11)⟩,
        ⟨some 28, none, .call (.func 86) [(.tmp 27)]⟩,
        ⟨some 29, none, .len false (.tmp 28)⟩,
        ⟨some 30, none, .mv (.const (.int .i64 0))⟩])
      (.block 2 (.loop (.seq (.ops [⟨some 31, none, .bin .lss 0 (.tmp 30) (.tmp 29)⟩])
        (.seq (.cond (.tmp 31) .skip
         (.exit 2))
        (.seq (.block 3 (.seq (.ops [⟨some 32, none, .ia 1 (.tmp 28) (.tmp 30)⟩,
            ⟨some 33, none, .load false 1 (.tmp 32)⟩,
            ⟨some 13, none, .mv (.tmp 33)⟩])
          (.seq (.ops [⟨some 34, none, .load true 4 (.tmp 11)⟩,
            ⟨some 35, none, .call (.func 87) [(.tmp 34)]⟩,
            ⟨some 36, none, .mv (.tmp 35)⟩,
            ⟨some 37, some (36, true), .mv (.tmp 13)⟩,
            ⟨some 38, some (36, true), .mv (.tmp 1)⟩,
            ⟨some 39, some (36, true), .bin .gtr 0 (.tmp 37) (.tmp 38)⟩,
            ⟨some 40, none, .pick (.tmp 36) (.tmp 39) (.const (.bool false))⟩,
            ⟨some 41, none, .mv (.tmp 40)⟩,
            ⟨some 42, some (41, true), .mv (.tmp 9)⟩,
            ⟨some 43, some (41, true), .bin .lss 0 (.tmp 42) (.const (.int .i64 0))⟩,
            ⟨some 44, some (41, true), .mv (.tmp 43)⟩,
            ⟨some 45, some (44, false), .mv (.tmp 13)⟩,
            ⟨some 46, some (44, false), .mv (.tmp 8)⟩,
            ⟨some 47, some (44, false), .bin .lss 0 (.tmp 45) (.tmp 46)⟩,
            ⟨some 48, some (41, true), .pick (.tmp 44) (.const (.bool true)) (.tmp 47)⟩,
            ⟨some 49, none, .pick (.tmp 41) (.tmp 48) (.const (.bool false))⟩])
          (.cond (.tmp 49) (.ops [⟨some 50, none, .mv (.tmp 13)⟩,
            ⟨some 51, none, .mv (.tmp 10)⟩,
            ⟨some 8, none, .mv (.tmp 50)⟩,
            ⟨some 9, none, .mv (.tmp 51)⟩])
          .skip))))
        (.ops [⟨some 52, none, .bin .add 0 (.tmp 30) (.const (.int .i64 1))⟩,
         ⟨some 30, none, .mv (.tmp 52)⟩])))))))))
    (.ops [⟨some 53, none, .bin .add 0 (.tmp 22) (.const (.int .i64 1))⟩,
     ⟨some 22, none, .mv (.tmp 53)⟩])))))))
 (.seq (.seq (.ops [⟨some 54, none, .mv (.tmp 9)⟩,
    ⟨some 55, none, .bin .lss 0 (.tmp 54) (.const (.int .i64 0))⟩])
  (.cond (.tmp 55) (.seq (.ops [⟨some 4, none, .mv (.const (.int .i64 0))⟩,
     ⟨some 5, none, .mv (.const (.int .i64 0))⟩,
     ⟨some 6, none, .mv (.const (.int .i64 4))⟩])
   .ret)
  .skip))
 (.seq (.ops [⟨some 56, none, .mv (.tmp 8)⟩,
   ⟨some 57, none, .mv (.tmp 9)⟩,
   ⟨some 4, none, .mv (.tmp 56)⟩,
   ⟨some 5, none, .mv (.tmp 57)⟩,
   ⟨some 6, none, .mv (.const (.int .i64 0))⟩])
 .ret))))))
theorem C23_ok : Try.f23.body.bind (comp Try.prog) = some C23 := by kernel_rfl
theorem C23_res : compRs Try.prog Try.f23.results.toList = some [.tmp 4, .tmp 5, .tmp 6] := by kernel_rfl
theorem C23_nm : (Try.f23.name == "runtime.NumGoroutine") = false := by kernel_rfl
theorem C23_fn {a0 a1 : AV} {H : Heap} {Q : AV → Heap → Prop} (h : vc Try.prog C23 (vcEnd [.tmp 4, .tmp 5, .tmp 6] Q) H [a0, a1, .any, .any, .any, .any, .any, .any, .any, .any, .any, .any, .any, .any, .any, .any, .any, .any, .any, .any, .any, .any, .any, .any, .any, .any, .any, .any, .any, .any, .any, .any, .any, .any, .any, .any, .any, .any, .any, .any, .any, .any, .any, .any, .any, .any, .any, .any, .any, .any, .any, .any, .any, .any, .any, .any, .any, .any]) : Runs Try.prog 23 [a0, a1] H Q :=
  @fn_go Try.prog mixed 23 Try.f23 C23 [.tmp 4, .tmp 5, .tmp 6] Try.func23 C23_ok C23_res C23_nm 58 Try.ntmps23 [a0, a1] [a0, a1, .any, .any, .any, .any, .any, .any, .any, .any, .any, .any, .any, .any, .any, .any, .any, .any, .any, .any, .any, .any, .any, .any, .any, .any, .any, .any, .any, .any, .any, .any, .any, .any, .any, .any, .any, .any, .any, .any, .any, .any, .any, .any, .any, .any, .any, .any, .any, .any, .any, .any, .any, .any, .any, .any, .any, .any] H Q h 56 (by kernel_rfl) (by kernel_rfl)

/-- laws.FnExactNextAction -/
def C5 : CC :=
 (.seq (.ops [⟨some 4, none, .mv (.const (.bool false))⟩])
 (.seq (.ops [⟨some 5, none, .mv (.const (.int .i64 1048576))⟩])
 (.seq (.ops [⟨some 13, none, .mv (.tmp 0)⟩,
   ⟨some 14, none, .mv (.tmp 5)⟩,
   ⟨some 15, none, .call (.func 15) [(.tmp 13), (.tmp 14)]⟩,
   ⟨some 5, none, .mv (.tmp 15)⟩])
 (.seq (.seq (.ops [⟨some 16, none, .mv (.tmp 5)⟩,
    ⟨some 17, none, .bin .lss 0 (.tmp 16) (.const (.int .i64 0))⟩])
  (.cond (.tmp 17) (.seq (.ops [⟨some 4, none, .mv (.const (.bool true))⟩])
   .ret)
  .skip))
 (.seq (.ops [⟨some 19, none, .mv (.tmp 0)⟩,
   ⟨some 20, none, .call (.func 17) [(.tmp 19)]⟩,
   ⟨some 21, none, .mv (.tmp 1)⟩,
   ⟨some 22, none, .call (.func 22) [(.tmp 20), (.tmp 21)]⟩,
   ⟨some 18, none, .mv (.tmp 22)⟩,
   ⟨some 23, none, .ext (.tmp 18) 0⟩,
   ⟨some 24, none, .ext (.tmp 18) 1⟩,
   ⟨some 25, none, .ext (.tmp 18) 2⟩,
   ⟨some 6, none, .mv (.tmp 23)⟩,
   ⟨some 7, none, .mv (.tmp 24)⟩,
   ⟨some 8, none, .mv (.tmp 25)⟩])
 (.seq (.ops [⟨some 26, none, .mv (.tmp 0)⟩,
   ⟨some 27, none, .call (.func 17) [(.tmp 26)]⟩,
   ⟨some 9, none, .mv (.tmp 27)⟩])
 (.seq (.ops [⟨some 29, none, .mv (.tmp 9)⟩,
   ⟨some 30, none, .mv (.tmp 1)⟩,
   ⟨some 31, none, .call (.func 23) [(.tmp 29), (.tmp 30)]⟩,
   ⟨some 28, none, .mv (.tmp 31)⟩,
   ⟨some 32, none, .ext (.tmp 28) 0⟩,
   ⟨some 33, none, .ext (.tmp 28) 1⟩,
   ⟨some 34, none, .ext (.tmp 28) 2⟩,
   ⟨some 10, none, .mv (.tmp 32)⟩,
   ⟨some 11, none, .mv (.tmp 33)⟩,
   ⟨some 12, none, .mv (.tmp 34)⟩])
 (.seq (.seq (.ops [⟨some 35, none, .mv (.tmp 10)⟩,
    ⟨some 36, none, .mv (.tmp 6)⟩,
    ⟨some 37, none, .bin .neq 0 (.tmp 35) (.tmp 36)⟩,
    ⟨some 38, none, .mv (.tmp 37)⟩,
    ⟨some 39, some (38, false), .mv (.tmp 11)⟩,
    ⟨some 40, some (38, false), .mv (.tmp 7)⟩,
    ⟨some 41, some (38, false), .bin .neq 0 (.tmp 39) (.tmp 40)⟩,
    ⟨some 42, none, .pick (.tmp 38) (.const (.bool true)) (.tmp 41)⟩,
    ⟨some 43, none, .mv (.tmp 42)⟩,
    ⟨some 44, some (43, false), .mv (.tmp 12)⟩,
    ⟨some 45, some (43, false), .mv (.tmp 8)⟩,
    ⟨some 46, some (43, false), .bin .neq 0 (.tmp 44) (.tmp 45)⟩,
    ⟨some 47, none, .pick (.tmp 43) (.const (.bool true)) (.tmp 46)⟩])
  (.cond (.tmp 47) (.seq (.ops [⟨some 4, none, .mv (.const (.bool false))⟩])
   .ret)
  .skip))
 (.seq (.seq (.ops [⟨some 48, none, .mv (.tmp 9)⟩,
    ⟨some 49, none, .mv (.tmp 0)⟩,
    ⟨some 50, none, .call (.func 17) [(.tmp 49)]⟩,
    ⟨some 51, none, .call (.func 19) [(.tmp 48), (.tmp 50)]⟩,
    ⟨some 52, none, .not (.tmp 51)⟩])
  (.cond (.tmp 52) (.seq (.ops [⟨some 4, none, .mv (.const (.bool false))⟩])
   .ret)
  .skip))
 (.seq (.ops [⟨some 4, none, .mv (.const (.bool true))⟩])
 .ret))))))))))
theorem C5_ok : Try.f5.body.bind (comp Try.prog) = some C5 := by kernel_rfl
theorem C5_res : compRs Try.prog Try.f5.results.toList = some [.tmp 4] := by kernel_rfl
theorem C5_nm : (Try.f5.name == "runtime.NumGoroutine") = false := by kernel_rfl
theorem C5_fn {a0 a1 : AV} {H : Heap} {Q : AV → Heap → Prop} (h : vc Try.prog C5 (vcEnd [.tmp 4] Q) H [a0, a1, .any, .any, .any, .any, .any, .any, .any, .any, .any, .any, .any, .any, .any, .any, .any, .any, .any, .any, .any, .any, .any, .any, .any, .any, .any, .any, .any, .any, .any, .any, .any, .any, .any, .any, .any, .any, .any, .any, .any, .any, .any, .any, .any, .any, .any, .any, .any, .any, .any, .any, .any]) : Runs Try.prog 5 [a0, a1] H Q :=
  @fn_go Try.prog mixed 5 Try.f5 C5 [.tmp 4] Try.func5 C5_ok C5_res C5_nm 53 Try.ntmps5 [a0, a1] [a0, a1, .any, .any, .any, .any, .any, .any, .any, .any, .any, .any, .any, .any, .any, .any, .any, .any, .any, .any, .any, .any, .any, .any, .any, .any, .any, .any, .any, .any, .any, .any, .any, .any, .any, .any, .any, .any, .any, .any, .any, .any, .any, .any, .any, .any, .any, .any, .any, .any, .any, .any, .any] H Q h 51 (by kernel_rfl) (by kernel_rfl)

/-- spec.StageOn -/
def C24 : CC :=
 (.seq (.ops [⟨some 6, none, .mv (.const (.int .i64 0))⟩,
   ⟨some 7, none, .mv (.const (.int .i64 0))⟩])
 (.seq (.ops [⟨some 13, none, .mv (.tmp 0)⟩,
   ⟨some 14, none, .mv (.tmp 1)⟩,
   ⟨some 15, none, .mv (.tmp 2)⟩,
   ⟨some 16, none, .call (.func 81) [(.tmp 13), (.tmp 14), (.tmp 15)]⟩,
   ⟨some 8, none, .mv (.tmp 16)⟩])
 (.seq (.seq (.ops [⟨some 17, none, .mv (.tmp 8)⟩,
    ⟨some 18, none, .bin .neq 0 (.tmp 17) (.const (.int .i64 0))⟩])
  (.cond (.tmp 18) (.seq (.ops [⟨some 19, none, .mv (.tmp 8)⟩,
     ⟨some 6, none, .mv (.const (.int .i64 0))⟩,
     ⟨some 7, none, .mv (.tmp 19)⟩])
   .ret)
  .skip))
 (.seq (.ops [⟨some 20, none, .mv (.tmp 0)⟩,
   ⟨some 21, none, .mv (.tmp 1)⟩,
   ⟨some 22, none, .ia 4 (.tmp 20) (.tmp 21)⟩,
   ⟨some 23, none, .load true 4 (.tmp 22)⟩,
   ⟨some 9, none, .alloc [.string ⟨#[]⟩, .int .i64 0, .int .i64 0, .int .i64 0]⟩,
   ⟨none, none, .store 4 (.tmp 9) (.tmp 23)⟩])
 (.seq (.ops [⟨some 24, none, .load true 4 (.tmp 9)⟩,
   ⟨some 25, none, .call (.func 74) [(.tmp 24)]⟩,
   ⟨some 10, none, .mv (.tmp 25)⟩])
 (.seq (.ops [⟨some 11, none, .mv (.const (.int .i64 0))⟩])
 (.seq (.seq (.ops [⟨some 12, none, .mv (.const (.int .i64 0))⟩])
  (.block 0 (.loop (.seq (.seq (.ops [⟨some 26, none, .mv (.tmp 12)⟩,
       ⟨some 27, none, .mv (.tmp 10)⟩,
       ⟨some 28, none, .len false (.tmp 27)⟩,
       ⟨some 29, none, .bin .lss 0 (.tmp 26) (.tmp 28)⟩])
     (.cond (.tmp 29) .skip
     (.exit 0)))
    (.seq (.block 1 (.seq (.draw 20 [⟨some 32, none, .mv (.tmp 10)⟩,
        ⟨some 33, none, .mv (.tmp 12)⟩,
        ⟨some 34, none, .ia 1 (.tmp 32) (.tmp 33)⟩,
        ⟨some 35, none, .load false 1 (.tmp 34)⟩,
        ⟨some 36, none, .mv (.tmp 2)⟩,
        ⟨some 37, none, .bin .leq 0 (.tmp 35) (.tmp 36)⟩,
        ⟨some 38, none, .mv (.tmp 37)⟩,
        ⟨some 39, some (38, true), .fa 3 (.tmp 9)⟩,
        ⟨some 40, some (38, true), .load false 1 (.tmp 39)⟩,
        ⟨some 41, some (38, true), .bin .eql 0 (.tmp 40) (.const (.int .i64 (-1)))⟩,
        ⟨some 42, some (38, true), .mv (.tmp 41)⟩,
        ⟨some 43, some (42, false), .mv (.tmp 10)⟩,
        ⟨some 44, some (42, false), .mv (.tmp 12)⟩,
        ⟨some 45, some (42, false), .ia 1 (.tmp 43) (.tmp 44)⟩,
        ⟨some 46, some (42, false), .load false 1 (.tmp 45)⟩,
        ⟨some 47, some (42, false), .fa 3 (.tmp 9)⟩,
        ⟨some 48, some (42, false), .load false 1 (.tmp 47)⟩,
        ⟨some 49, some (42, false), .bin .leq 0 (.tmp 46) (.tmp 48)⟩,
        ⟨some 50, some (38, true), .pick (.tmp 42) (.const (.bool true)) (.tmp 49)⟩,
        ⟨some 51, none, .pick (.tmp 38) (.tmp 50) (.const (.bool false))⟩])
      (.cond (.tmp 51) (.ops [⟨some 52, none, .mv (.tmp 11)⟩,
        ⟨some 53, none, .bin .add 0 (.tmp 52) (.const (.int .i64 1))⟩,
        ⟨some 11, none, .mv (.tmp 53)⟩])
      .skip)))
    (.ops [⟨some 30, none, .mv (.tmp 12)⟩,
     ⟨some 31, none, .bin .add 0 (.tmp 30) (.const (.int .i64 1))⟩,
     ⟨some 12, none, .mv (.tmp 31)⟩]))))))
 (.seq (.ops [⟨some 54, none, .mv (.tmp 11)⟩,
   ⟨some 6, none, .mv (.tmp 54)⟩,
   ⟨some 7, none, .mv (.const (.int .i64 0))⟩])
 .ret))))))))
theorem C24_ok : Try.f24.body.bind (comp Try.prog) = some C24 := by kernel_rfl
theorem C24_res : compRs Try.prog Try.f24.results.toList = some [.tmp 6, .tmp 7] := by kernel_rfl
theorem C24_nm : (Try.f24.name == "runtime.NumGoroutine") = false := by kernel_rfl
theorem C24_fn {a0 a1 a2 : AV} {H : Heap} {Q : AV → Heap → Prop} (h : vc Try.prog C24 (vcEnd [.tmp 6, .tmp 7] Q) H [a0, a1, a2, .any, .any, .any, .any, .any, .any, .any, .any, .any, .any, .any, .any, .any, .any, .any, .any, .any, .any, .any, .any, .any, .any, .any, .any, .any, .any, .any, .any, .any, .any, .any, .any, .any, .any, .any, .any, .any, .any, .any, .any, .any, .any, .any, .any, .any, .any, .any, .any, .any, .any, .any, .any]) : Runs Try.prog 24 [a0, a1, a2] H Q :=
  @fn_go Try.prog mixed 24 Try.f24 C24 [.tmp 6, .tmp 7] Try.func24 C24_ok C24_res C24_nm 55 Try.ntmps24 [a0, a1, a2] [a0, a1, a2, .any, .any, .any, .any, .any, .any, .any, .any, .any, .any, .any, .any, .any, .any, .any, .any, .any, .any, .any, .any, .any, .any, .any, .any, .any, .any, .any, .any, .any, .any, .any, .any, .any, .any, .any, .any, .any, .any, .any, .any, .any, .any, .any, .any, .any, .any, .any, .any, .any, .any, .any, .any] H Q h 52 (by kernel_rfl) (by kernel_rfl)

/-- impl.count[int64] -/
def C88 : CC :=
 (.seq (.ops [⟨some 2, none, .mv (.const (.int .i64 0))⟩])
 (.seq (.ops [⟨some 3, none, .mv (.tmp 0)⟩,
   ⟨some 4, none, .len false (.tmp 3)⟩,
   ⟨some 2, none, .mv (.tmp 4)⟩])
 .ret))
theorem C88_ok : Try.f88.body.bind (comp Try.prog) = some C88 := by kernel_rfl
theorem C88_res : compRs Try.prog Try.f88.results.toList = some [.tmp 2] := by kernel_rfl
theorem C88_nm : (Try.f88.name == "runtime.NumGoroutine") = false := by kernel_rfl
theorem C88_fn {a0 : AV} {H : Heap} {Q : AV → Heap → Prop} (h : vc Try.prog C88 (vcEnd [.tmp 2] Q) H [a0, .any, .any, .any, .any]) : Runs Try.prog 88 [a0] H Q :=
  @fn_go Try.prog mixed 88 Try.f88 C88 [.tmp 2] Try.func88 C88_ok C88_res C88_nm 5 Try.ntmps88 [a0] [a0, .any, .any, .any, .any] H Q h 4 (by kernel_rfl) (by kernel_rfl)

/-- impl.indices[int64] -/
def C89 : CC :=
 (.seq (.ops [⟨some 4, none, .mv (.const (.slice none 0 0))⟩])
 (.seq (.ops [⟨some 8, none, .lit 1 []⟩,
   ⟨some 5, none, .mv (.tmp 8)⟩])
 (.seq (.seq (.ops [⟨some 9, none, .mv (.tmp 0)⟩,
    ⟨some 10, none, .len false (.tmp 9)⟩,
    ⟨some 11, none, .mv (.const (.int .i64 0))⟩])
  (.block 0 (.loop (.seq (.ops [⟨some 12, none, .bin .lss 0 (.tmp 11) (.tmp 10)⟩])
    (.seq (.cond (.tmp 12) .skip
     (.exit 0))
    (.seq (.block 1 (.seq (.ops [⟨some 13, none, .mv (.tmp 11)⟩,
        ⟨some 14, none, .ia 1 (.tmp 9) (.tmp 11)⟩,
        ⟨some 15, none, .load false 1 (.tmp 14)⟩,
        ⟨some 6, none, .mv (.tmp 13)⟩,
        ⟨some 7, none, .mv (.tmp 15)⟩])
      (.seq (.ops [⟨some 16, none, .mv (.tmp 1)⟩,
        ⟨some 17, none, .mv (.tmp 7)⟩,
        ⟨some 18, none, .call (.tmp 16) [(.tmp 17)]⟩])
      (.cond (.tmp 18) (.ops [⟨some 19, none, .mv (.tmp 5)⟩,
        ⟨some 20, none, .mv (.tmp 6)⟩,
        ⟨some 21, none, .lit 1 [(.tmp 20)]⟩,
        ⟨some 22, none, .app 1 8 (.tmp 19) (.tmp 21)⟩,
        ⟨some 5, none, .mv (.tmp 22)⟩])
      .skip))))
    (.ops [⟨some 23, none, .bin .add 0 (.tmp 11) (.const (.int .i64 1))⟩,
     ⟨some 11, none, .mv (.tmp 23)⟩])))))))
 (.seq (.ops [⟨some 24, none, .mv (.tmp 5)⟩,
   ⟨some 4, none, .mv (.tmp 24)⟩])
 .ret))))
theorem C89_ok : Try.f89.body.bind (comp Try.prog) = some C89 := by kernel_rfl
theorem C89_res : compRs Try.prog Try.f89.results.toList = some [.tmp 4] := by kernel_rfl
theorem C89_nm : (Try.f89.name == "runtime.NumGoroutine") = false := by kernel_rfl
theorem C89_fn {a0 a1 : AV} {H : Heap} {Q : AV → Heap → Prop} (h : vc Try.prog C89 (vcEnd [.tmp 4] Q) H [a0, a1, .any, .any, .any, .any, .any, .any, .any, .any, .any, .any, .any, .any, .any, .any, .any, .any, .any, .any, .any, .any, .any, .any, .any]) : Runs Try.prog 89 [a0, a1] H Q :=
  @fn_go Try.prog mixed 89 Try.f89 C89 [.tmp 4] Try.func89 C89_ok C89_res C89_nm 25 Try.ntmps89 [a0, a1] [a0, a1, .any, .any, .any, .any, .any, .any, .any, .any, .any, .any, .any, .any, .any, .any, .any, .any, .any, .any, .any, .any, .any, .any, .any] H Q h 23 (by kernel_rfl) (by kernel_rfl)

/-- impl.StageOn$1 -/
def C90 : CC :=
 (.seq (.ops [⟨some 3, none, .mv (.const (.bool false))⟩])
 (.seq (.ops [⟨some 4, none, .mv (.tmp 0)⟩,
   ⟨some 5, none, .load false 1 (.tmp 1)⟩,
   ⟨some 6, none, .bin .leq 0 (.tmp 4) (.tmp 5)⟩,
   ⟨some 3, none, .mv (.tmp 6)⟩])
 .ret))
theorem C90_ok : Try.f90.body.bind (comp Try.prog) = some C90 := by kernel_rfl
theorem C90_res : compRs Try.prog Try.f90.results.toList = some [.tmp 3] := by kernel_rfl
theorem C90_nm : (Try.f90.name == "runtime.NumGoroutine") = false := by kernel_rfl
theorem C90_fn {a0 a1 : AV} {H : Heap} {Q : AV → Heap → Prop} (h : vc Try.prog C90 (vcEnd [.tmp 3] Q) H [a0, a1, .any, .any, .any, .any, .any]) : Runs Try.prog 90 [a0, a1] H Q :=
  @fn_go Try.prog mixed 90 Try.f90 C90 [.tmp 3] Try.func90 C90_ok C90_res C90_nm 7 Try.ntmps90 [a0, a1] [a0, a1, .any, .any, .any, .any, .any] H Q h 5 (by kernel_rfl) (by kernel_rfl)

/-- impl.StageOn -/
def C25 : CC :=
 (.seq (.ops [⟨some 5, none, .box (.tmp 2)⟩,
   ⟨some 6, none, .mv (.const (.int .i64 0))⟩,
   ⟨some 7, none, .mv (.const (.int .i64 0))⟩])
 (.seq (.seq (.ops [⟨some 10, none, .mv (.tmp 0)⟩,
    ⟨some 11, none, .mv (.tmp 1)⟩,
    ⟨some 12, none, .load false 1 (.tmp 5)⟩,
    ⟨some 13, none, .lit 1 [(.tmp 12)]⟩,
    ⟨some 14, none, .call (.func 83) [(.tmp 10), (.tmp 11), (.tmp 13)]⟩,
    ⟨some 8, none, .mv (.tmp 14)⟩])
  (.seq (.ops [⟨some 15, none, .mv (.tmp 8)⟩,
    ⟨some 16, none, .bin .neq 0 (.tmp 15) (.const (.int .i64 0))⟩])
  (.cond (.tmp 16) (.seq (.ops [⟨some 17, none, .mv (.tmp 8)⟩,
     ⟨some 6, none, .mv (.const (.int .i64 0))⟩,
     ⟨some 7, none, .mv (.tmp 17)⟩])
   .ret)
  .skip)))
 (.seq (.ops [⟨some 18, none, .mv (.tmp 0)⟩,
   ⟨some 19, none, .mv (.tmp 1)⟩,
   ⟨some 20, none, .ia 4 (.tmp 18) (.tmp 19)⟩,
   ⟨some 21, none, .load true 4 (.tmp 20)⟩,
   ⟨some 9, none, .alloc [.string ⟨#[]⟩, .int .i64 0, .int .i64 0, .int .i64 0]⟩,
   ⟨none, none, .store 4 (.tmp 9) (.tmp 21)⟩])
 (.seq (.seq (.ops [⟨some 22, none, .load true 4 (.tmp 9)⟩,
    ⟨some 23, none, .call (.func 87) [(.tmp 22)]⟩,
    ⟨some 24, none, .not (.tmp 23)⟩])
  (.cond (.tmp 24) (.ops [⟨some 25, none, .load false 1 (.tmp 5)⟩,
    ⟨some 26, none, .fa 3 (.tmp 9)⟩,
    ⟨some 27, none, .load false 1 (.tmp 26)⟩,
    ⟨some 28, none, .mn (.tmp 25) (.tmp 27)⟩,
    ⟨none, none, .store 1 (.tmp 5) (.tmp 28)⟩])
  .skip))
 (.seq (.ops [⟨some 29, none, .load true 4 (.tmp 9)⟩,
   ⟨some 30, none, .call (.func 86) [(.tmp 29)]⟩,
   ⟨some 31, none, .mkf 90 [(.tmp 5)]⟩,
   ⟨some 32, none, .call (.func 89) [(.tmp 30), (.tmp 31)]⟩,
   ⟨some 33, none, .call (.func 88) [(.tmp 32)]⟩,
   ⟨some 6, none, .mv (.tmp 33)⟩,
   ⟨some 7, none, .mv (.const (.int .i64 0))⟩])
 .ret)))))
theorem C25_ok : Try.f25.body.bind (comp Try.prog) = some C25 := by kernel_rfl
theorem C25_res : compRs Try.prog Try.f25.results.toList = some [.tmp 6, .tmp 7] := by kernel_rfl
theorem C25_nm : (Try.f25.name == "runtime.NumGoroutine") = false := by kernel_rfl
theorem C25_fn {a0 a1 a2 : AV} {H : Heap} {Q : AV → Heap → Prop} (h : vc Try.prog C25 (vcEnd [.tmp 6, .tmp 7] Q) H [a0, a1, a2, .any, .any, .any, .any, .any, .any, .any, .any, .any, .any, .any, .any, .any, .any, .any, .any, .any, .any, .any, .any, .any, .any, .any, .any, .any, .any, .any, .any, .any, .any, .any]) : Runs Try.prog 25 [a0, a1, a2] H Q :=
  @fn_go Try.prog mixed 25 Try.f25 C25 [.tmp 6, .tmp 7] Try.func25 C25_ok C25_res C25_nm 34 Try.ntmps25 [a0, a1, a2] [a0, a1, a2, .any, .any, .any, .any, .any, .any, .any, .any, .any, .any, .any, .any, .any, .any, .any, .any, .any, .any, .any, .any, .any, .any, .any, .any, .any, .any, .any, .any, .any, .any, .any] H Q h 31 (by kernel_rfl) (by kernel_rfl)

/-- laws.FnExactStageOn -/
def C6 : CC :=
 (.seq (.ops [⟨some 6, none, .mv (.const (.bool false))⟩])
 (.seq (.ops [⟨some 7, none, .mv (.const (.int .i64 1048576))⟩])
 (.seq (.ops [⟨some 13, none, .mv (.tmp 0)⟩,
   ⟨some 14, none, .mv (.tmp 7)⟩,
   ⟨some 15, none, .call (.func 15) [(.tmp 13), (.tmp 14)]⟩,
   ⟨some 7, none, .mv (.tmp 15)⟩])
 (.seq (.seq (.ops [⟨some 16, none, .mv (.tmp 7)⟩,
    ⟨some 17, none, .bin .lss 0 (.tmp 16) (.const (.int .i64 0))⟩])
  (.cond (.tmp 17) (.seq (.ops [⟨some 6, none, .mv (.const (.bool true))⟩])
   .ret)
  .skip))
 (.seq (.ops [⟨some 19, none, .mv (.tmp 0)⟩,
   ⟨some 20, none, .call (.func 17) [(.tmp 19)]⟩,
   ⟨some 21, none, .mv (.tmp 1)⟩,
   ⟨some 22, none, .mv (.tmp 2)⟩,
   ⟨some 23, none, .call (.func 24) [(.tmp 20), (.tmp 21), (.tmp 22)]⟩,
   ⟨some 18, none, .mv (.tmp 23)⟩,
   ⟨some 24, none, .ext (.tmp 18) 0⟩,
   ⟨some 25, none, .ext (.tmp 18) 1⟩,
   ⟨some 8, none, .mv (.tmp 24)⟩,
   ⟨some 9, none, .mv (.tmp 25)⟩])
 (.seq (.ops [⟨some 26, none, .mv (.tmp 0)⟩,
   ⟨some 27, none, .call (.func 17) [(.tmp 26)]⟩,
   ⟨some 10, none, .mv (.tmp 27)⟩])
 (.seq (.ops [⟨some 29, none, .mv (.tmp 10)⟩,
   ⟨some 30, none, .mv (.tmp 1)⟩,
   ⟨some 31, none, .mv (.tmp 2)⟩,
   ⟨some 32, none, .call (.func 25) [(.tmp 29), (.tmp 30), (.tmp 31)]⟩,
   ⟨some 28, none, .mv (.tmp 32)⟩,
   ⟨some 33, none, .ext (.tmp 28) 0⟩,
   ⟨some 34, none, .ext (.tmp 28) 1⟩,
   ⟨some 11, none, .mv (.tmp 33)⟩,
   ⟨some 12, none, .mv (.tmp 34)⟩])
 (.seq (.seq (.ops [⟨some 35, none, .mv (.tmp 11)⟩,
    ⟨some 36, none, .mv (.tmp 8)⟩,
    ⟨some 37, none, .bin .neq 0 (.tmp 35) (.tmp 36)⟩,
    ⟨some 38, none, .mv (.tmp 37)⟩,
    ⟨some 39, some (38, false), .mv (.tmp 12)⟩,
    ⟨some 40, some (38, false), .mv (.tmp 9)⟩,
    ⟨some 41, some (38, false), .bin .neq 0 (.tmp 39) (.tmp 40)⟩,
    ⟨some 42, none, .pick (.tmp 38) (.const (.bool true)) (.tmp 41)⟩])
  (.cond (.tmp 42) (.seq (.ops [⟨some 6, none, .mv (.const (.bool false))⟩])
   .ret)
  .skip))
 (.seq (.seq (.ops [⟨some 43, none, .mv (.tmp 10)⟩,
    ⟨some 44, none, .mv (.tmp 0)⟩,
    ⟨some 45, none, .call (.func 17) [(.tmp 44)]⟩,
    ⟨some 46, none, .call (.func 19) [(.tmp 43), (.tmp 45)]⟩,
    ⟨some 47, none, .not (.tmp 46)⟩])
  (.cond (.tmp 47) (.seq (.ops [⟨some 6, none, .mv (.const (.bool false))⟩])
   .ret)
  .skip))
 (.seq (.ops [⟨some 6, none, .mv (.const (.bool true))⟩])
 .ret))))))))))
theorem C6_ok : Try.f6.body.bind (comp Try.prog) = some C6 := by kernel_rfl
theorem C6_res : compRs Try.prog Try.f6.results.toList = some [.tmp 6] := by kernel_rfl
theorem C6_nm : (Try.f6.name == "runtime.NumGoroutine") = false := by kernel_rfl
theorem C6_fn {a0 a1 a2 : AV} {H : Heap} {Q : AV → Heap → Prop} (h : vc Try.prog C6 (vcEnd [.tmp 6] Q) H [a0, a1, a2, .any, .any, .any, .any, .any, .any, .any, .any, .any, .any, .any, .any, .any, .any, .any, .any, .any, .any, .any, .any, .any, .any, .any, .any, .any, .any, .any, .any, .any, .any, .any, .any, .any, .any, .any, .any, .any, .any, .any, .any, .any, .any, .any, .any, .any]) : Runs Try.prog 6 [a0, a1, a2] H Q :=
  @fn_go Try.prog mixed 6 Try.f6 C6 [.tmp 6] Try.func6 C6_ok C6_res C6_nm 48 Try.ntmps6 [a0, a1, a2] [a0, a1, a2, .any, .any, .any, .any, .any, .any, .any, .any, .any, .any, .any, .any, .any, .any, .any, .any, .any, .any, .any, .any, .any, .any, .any, .any, .any, .any, .any, .any, .any, .any, .any, .any, .any, .any, .any, .any, .any, .any, .any, .any, .any, .any, .any, .any, .any] H Q h 45 (by kernel_rfl) (by kernel_rfl)

/-- spec.ReminderDays -/
def C26 : CC :=
 (.seq (.ops [⟨some 4, none, .mv (.const (.slice none 0 0))⟩,
   ⟨some 5, none, .mv (.const (.int .i64 0))⟩])
 (.seq (.ops [⟨some 7, none, .mv (.tmp 0)⟩,
   ⟨some 8, none, .mv (.tmp 1)⟩,
   ⟨some 9, none, .call (.func 81) [(.tmp 7), (.tmp 8), (.const (.int .i64 0))]⟩,
   ⟨some 6, none, .mv (.tmp 9)⟩])
 (.seq (.seq (.ops [⟨some 10, none, .mv (.tmp 6)⟩,
    ⟨some 11, none, .bin .neq 0 (.tmp 10) (.const (.int .i64 0))⟩])
  (.cond (.tmp 11) (.seq (.ops [⟨some 12, none, .mv (.tmp 6)⟩,
     ⟨some 4, none, .mv (.const (.slice none 0 0))⟩,
     ⟨some 5, none, .mv (.tmp 12)⟩])
   .ret)
  .skip))
 (.seq (.ops [⟨some 13, none, .mv (.tmp 0)⟩,
   ⟨some 14, none, .mv (.tmp 1)⟩,
   ⟨some 15, none, .ia 4 (.tmp 13) (.tmp 14)⟩,
   ⟨some 16, none, .load true 4 (.tmp 15)⟩,
   ⟨some 17, none, .call (.func 74) [(.tmp 16)]⟩,
   ⟨some 4, none, .mv (.tmp 17)⟩,
   ⟨some 5, none, .mv (.const (.int .i64 0))⟩])
 .ret))))
theorem C26_ok : Try.f26.body.bind (comp Try.prog) = some C26 := by kernel_rfl
theorem C26_res : compRs Try.prog Try.f26.results.toList = some [.tmp 4, .tmp 5] := by kernel_rfl
theorem C26_nm : (Try.f26.name == "runtime.NumGoroutine") = false := by kernel_rfl
theorem C26_fn {a0 a1 : AV} {H : Heap} {Q : AV → Heap → Prop} (h : vc Try.prog C26 (vcEnd [.tmp 4, .tmp 5] Q) H [a0, a1, .any, .any, .any, .any, .any, .any, .any, .any, .any, .any, .any, .any, .any, .any, .any, .any]) : Runs Try.prog 26 [a0, a1] H Q :=
  @fn_go Try.prog mixed 26 Try.f26 C26 [.tmp 4, .tmp 5] Try.func26 C26_ok C26_res C26_nm 18 Try.ntmps26 [a0, a1] [a0, a1, .any, .any, .any, .any, .any, .any, .any, .any, .any, .any, .any, .any, .any, .any, .any, .any] H Q h 16 (by kernel_rfl) (by kernel_rfl)

end Go.Proofs.Ytpaflfaokgapgaa
