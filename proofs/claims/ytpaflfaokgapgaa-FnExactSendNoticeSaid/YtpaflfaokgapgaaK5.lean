/- The code of the functions, in the form of our laws; each is the program's own, by the kernel. Written by a program of ours. -/
import Derived.Test.YtpaflfaokgapgaaB0
import Derived.KernelRfl
namespace Go.Proofs.Ytpaflfaokgapgaa
open Go.Abs

/-- slices.partitionOrdered[string] -/
def C173 : CC :=
 (.seq (.ops [⟨some 8, none, .mv (.const (.int .i64 0))⟩,
   ⟨some 9, none, .mv (.const (.bool false))⟩])
 (.seq (.loud 14 (.alt (.step ⟨some 18, none, .ia 1 (.tmp 16) (.tmp 17)⟩ (.alt (.step ⟨some 19, none, .load false 1 (.tmp 18)⟩ (.step ⟨some 23, none, .load false 1 (.tmp 22)⟩ (.step ⟨some 24, none, .ia 1 (.tmp 12) (.tmp 13)⟩ (.step ⟨none, none, .store 1 (.tmp 24) (.tmp 19)⟩ .leaf))))
   (.step ⟨some 23, none, .load false 1 (.tmp 22)⟩ (.step ⟨some 19, none, .load false 1 (.tmp 18)⟩ (.step ⟨some 24, none, .ia 1 (.tmp 12) (.tmp 13)⟩ (.step ⟨none, none, .store 1 (.tmp 24) (.tmp 19)⟩ .leaf))))))
   (.step ⟨some 23, none, .load false 1 (.tmp 22)⟩ (.step ⟨some 18, none, .ia 1 (.tmp 16) (.tmp 17)⟩ (.step ⟨some 19, none, .load false 1 (.tmp 18)⟩ (.step ⟨some 24, none, .ia 1 (.tmp 12) (.tmp 13)⟩ (.step ⟨none, none, .store 1 (.tmp 24) (.tmp 19)⟩ .leaf))))))
   [⟨some 12, none, .mv (.tmp 0)⟩, 
  ⟨some 13, none, .mv (.tmp 1)⟩, 
  ⟨some 14, none, .mv (.tmp 0)⟩, 
  ⟨some 15, none, .mv (.tmp 3)⟩, 
  ⟨some 16, none, .mv (.tmp 0)⟩, 
  ⟨some 17, none, .mv (.tmp 3)⟩, 
  ⟨none, none, .mv (.const undef)⟩, 
  ⟨none, none, .mv (.const undef)⟩, 
  ⟨some 20, none, .mv (.tmp 0)⟩, 
  ⟨some 21, none, .mv (.tmp 1)⟩, 
  ⟨some 22, none, .ia 1 (.tmp 20) (.tmp 21)⟩, 
  ⟨none, none, .mv (.const undef)⟩, 
  ⟨none, none, .mv (.const undef)⟩, 
  ⟨none, none, .mv (.const undef)⟩]
   [⟨some 25, none, .ia 1 (.tmp 14) (.tmp 15)⟩, ⟨none, none, .store 1 (.tmp 25) (.tmp 23)⟩])
 (.seq (.ops [⟨some 26, none, .mv (.tmp 1)⟩,
   ⟨some 27, none, .bin .add 0 (.tmp 26) (.const (.int .i64 1))⟩,
   ⟨some 28, none, .mv (.tmp 2)⟩,
   ⟨some 29, none, .bin .sub 0 (.tmp 28) (.const (.int .i64 1))⟩,
   ⟨some 10, none, .mv (.tmp 27)⟩,
   ⟨some 11, none, .mv (.tmp 29)⟩])
 (.seq (.block 0 (.loop (.seq (.seq (.draw 14 [⟨some 30, none, .mv (.tmp 10)⟩,
       ⟨some 31, none, .mv (.tmp 11)⟩,
       ⟨some 32, none, .bin .leq 0 (.tmp 30) (.tmp 31)⟩,
       ⟨some 33, none, .mv (.tmp 32)⟩,
       ⟨some 34, some (33, true), .mv (.tmp 0)⟩,
       ⟨some 35, some (33, true), .mv (.tmp 10)⟩,
       ⟨some 36, some (33, true), .ia 1 (.tmp 34) (.tmp 35)⟩,
       ⟨some 37, some (33, true), .load false 1 (.tmp 36)⟩,
       ⟨some 38, some (33, true), .mv (.tmp 0)⟩,
       ⟨some 39, some (33, true), .mv (.tmp 1)⟩,
       ⟨some 40, some (33, true), .ia 1 (.tmp 38) (.tmp 39)⟩,
       ⟨some 41, some (33, true), .load false 1 (.tmp 40)⟩,
       ⟨some 42, some (33, true), .call (.func 171) [(.tmp 37), (.tmp 41)]⟩,
       ⟨some 43, none, .pick (.tmp 33) (.tmp 42) (.const (.bool false))⟩])
     (.cond (.tmp 43) .skip
     (.exit 0)))
    (.block 1 (.ops [⟨some 44, none, .mv (.tmp 10)⟩,
      ⟨some 45, none, .bin .add 0 (.tmp 44) (.const (.int .i64 1))⟩,
      ⟨some 10, none, .mv (.tmp 45)⟩])))))
 (.seq (.block 2 (.loop (.seq (.seq (.draw 15 [⟨some 46, none, .mv (.tmp 10)⟩,
       ⟨some 47, none, .mv (.tmp 11)⟩,
       ⟨some 48, none, .bin .leq 0 (.tmp 46) (.tmp 47)⟩,
       ⟨some 49, none, .mv (.tmp 48)⟩,
       ⟨some 50, some (49, true), .mv (.tmp 0)⟩,
       ⟨some 51, some (49, true), .mv (.tmp 11)⟩,
       ⟨some 52, some (49, true), .ia 1 (.tmp 50) (.tmp 51)⟩,
       ⟨some 53, some (49, true), .load false 1 (.tmp 52)⟩,
       ⟨some 54, some (49, true), .mv (.tmp 0)⟩,
       ⟨some 55, some (49, true), .mv (.tmp 1)⟩,
       ⟨some 56, some (49, true), .ia 1 (.tmp 54) (.tmp 55)⟩,
       ⟨some 57, some (49, true), .load false 1 (.tmp 56)⟩,
       ⟨some 58, some (49, true), .call (.func 171) [(.tmp 53), (.tmp 57)]⟩,
       ⟨some 59, some (49, true), .not (.tmp 58)⟩,
       ⟨some 60, none, .pick (.tmp 49) (.tmp 59) (.const (.bool false))⟩])
     (.cond (.tmp 60) .skip
     (.exit 2)))
    (.block 3 (.ops [⟨some 61, none, .mv (.tmp 11)⟩,
      ⟨some 62, none, .bin .sub 0 (.tmp 61) (.const (.int .i64 1))⟩,
      ⟨some 11, none, .mv (.tmp 62)⟩])))))
 (.seq (.seq (.ops [⟨some 63, none, .mv (.tmp 10)⟩,
    ⟨some 64, none, .mv (.tmp 11)⟩,
    ⟨some 65, none, .bin .gtr 0 (.tmp 63) (.tmp 64)⟩])
  (.cond (.tmp 65) (.seq (.loud 14 (.alt (.step ⟨some 72, none, .ia 1 (.tmp 70) (.tmp 71)⟩ (.alt (.step ⟨some 73, none, .load false 1 (.tmp 72)⟩ (.step ⟨some 77, none, .load false 1 (.tmp 76)⟩ (.step ⟨some 78, none, .ia 1 (.tmp 66) (.tmp 67)⟩ (.step ⟨none, none, .store 1 (.tmp 78) (.tmp 73)⟩ .leaf))))
     (.step ⟨some 77, none, .load false 1 (.tmp 76)⟩ (.step ⟨some 73, none, .load false 1 (.tmp 72)⟩ (.step ⟨some 78, none, .ia 1 (.tmp 66) (.tmp 67)⟩ (.step ⟨none, none, .store 1 (.tmp 78) (.tmp 73)⟩ .leaf))))))
     (.step ⟨some 77, none, .load false 1 (.tmp 76)⟩ (.step ⟨some 72, none, .ia 1 (.tmp 70) (.tmp 71)⟩ (.step ⟨some 73, none, .load false 1 (.tmp 72)⟩ (.step ⟨some 78, none, .ia 1 (.tmp 66) (.tmp 67)⟩ (.step ⟨none, none, .store 1 (.tmp 78) (.tmp 73)⟩ .leaf))))))
     [⟨some 66, none, .mv (.tmp 0)⟩, 
    ⟨some 67, none, .mv (.tmp 11)⟩, 
    ⟨some 68, none, .mv (.tmp 0)⟩, 
    ⟨some 69, none, .mv (.tmp 1)⟩, 
    ⟨some 70, none, .mv (.tmp 0)⟩, 
    ⟨some 71, none, .mv (.tmp 1)⟩, 
    ⟨none, none, .mv (.const undef)⟩, 
    ⟨none, none, .mv (.const undef)⟩, 
    ⟨some 74, none, .mv (.tmp 0)⟩, 
    ⟨some 75, none, .mv (.tmp 11)⟩, 
    ⟨some 76, none, .ia 1 (.tmp 74) (.tmp 75)⟩, 
    ⟨none, none, .mv (.const undef)⟩, 
    ⟨none, none, .mv (.const undef)⟩, 
    ⟨none, none, .mv (.const undef)⟩]
     [⟨some 79, none, .ia 1 (.tmp 68) (.tmp 69)⟩, ⟨none, none, .store 1 (.tmp 79) (.tmp 77)⟩])
   (.seq (.ops [⟨some 80, none, .mv (.tmp 11)⟩,
     ⟨some 8, none, .mv (.tmp 80)⟩,
     ⟨some 9, none, .mv (.const (.bool true))⟩])
   .ret))
  .skip))
 (.seq (.loud 14 (.alt (.step ⟨some 87, none, .ia 1 (.tmp 85) (.tmp 86)⟩ (.alt (.step ⟨some 88, none, .load false 1 (.tmp 87)⟩ (.step ⟨some 92, none, .load false 1 (.tmp 91)⟩ (.step ⟨some 93, none, .ia 1 (.tmp 81) (.tmp 82)⟩ (.step ⟨none, none, .store 1 (.tmp 93) (.tmp 88)⟩ .leaf))))
   (.step ⟨some 92, none, .load false 1 (.tmp 91)⟩ (.step ⟨some 88, none, .load false 1 (.tmp 87)⟩ (.step ⟨some 93, none, .ia 1 (.tmp 81) (.tmp 82)⟩ (.step ⟨none, none, .store 1 (.tmp 93) (.tmp 88)⟩ .leaf))))))
   (.step ⟨some 92, none, .load false 1 (.tmp 91)⟩ (.step ⟨some 87, none, .ia 1 (.tmp 85) (.tmp 86)⟩ (.step ⟨some 88, none, .load false 1 (.tmp 87)⟩ (.step ⟨some 93, none, .ia 1 (.tmp 81) (.tmp 82)⟩ (.step ⟨none, none, .store 1 (.tmp 93) (.tmp 88)⟩ .leaf))))))
   [⟨some 81, none, .mv (.tmp 0)⟩, 
  ⟨some 82, none, .mv (.tmp 10)⟩, 
  ⟨some 83, none, .mv (.tmp 0)⟩, 
  ⟨some 84, none, .mv (.tmp 11)⟩, 
  ⟨some 85, none, .mv (.tmp 0)⟩, 
  ⟨some 86, none, .mv (.tmp 11)⟩, 
  ⟨none, none, .mv (.const undef)⟩, 
  ⟨none, none, .mv (.const undef)⟩, 
  ⟨some 89, none, .mv (.tmp 0)⟩, 
  ⟨some 90, none, .mv (.tmp 10)⟩, 
  ⟨some 91, none, .ia 1 (.tmp 89) (.tmp 90)⟩, 
  ⟨none, none, .mv (.const undef)⟩, 
  ⟨none, none, .mv (.const undef)⟩, 
  ⟨none, none, .mv (.const undef)⟩]
   [⟨some 94, none, .ia 1 (.tmp 83) (.tmp 84)⟩, ⟨none, none, .store 1 (.tmp 94) (.tmp 92)⟩])
 (.seq (.ops [⟨some 95, none, .mv (.tmp 10)⟩,
   ⟨some 96, none, .bin .add 0 (.tmp 95) (.const (.int .i64 1))⟩,
   ⟨some 10, none, .mv (.tmp 96)⟩])
 (.seq (.ops [⟨some 97, none, .mv (.tmp 11)⟩,
   ⟨some 98, none, .bin .sub 0 (.tmp 97) (.const (.int .i64 1))⟩,
   ⟨some 11, none, .mv (.tmp 98)⟩])
 (.seq (.block 4 (.loop (.block 5 (.seq (.block 6 (.loop (.seq (.seq (.draw 14 [⟨some 99, none, .mv (.tmp 10)⟩,
           ⟨some 100, none, .mv (.tmp 11)⟩,
           ⟨some 101, none, .bin .leq 0 (.tmp 99) (.tmp 100)⟩,
           ⟨some 102, none, .mv (.tmp 101)⟩,
           ⟨some 103, some (102, true), .mv (.tmp 0)⟩,
           ⟨some 104, some (102, true), .mv (.tmp 10)⟩,
           ⟨some 105, some (102, true), .ia 1 (.tmp 103) (.tmp 104)⟩,
           ⟨some 106, some (102, true), .load false 1 (.tmp 105)⟩,
           ⟨some 107, some (102, true), .mv (.tmp 0)⟩,
           ⟨some 108, some (102, true), .mv (.tmp 1)⟩,
           ⟨some 109, some (102, true), .ia 1 (.tmp 107) (.tmp 108)⟩,
           ⟨some 110, some (102, true), .load false 1 (.tmp 109)⟩,
           ⟨some 111, some (102, true), .call (.func 171) [(.tmp 106), (.tmp 110)]⟩,
           ⟨some 112, none, .pick (.tmp 102) (.tmp 111) (.const (.bool false))⟩])
         (.cond (.tmp 112) .skip
         (.exit 6)))
        (.block 7 (.ops [⟨some 113, none, .mv (.tmp 10)⟩,
          ⟨some 114, none, .bin .add 0 (.tmp 113) (.const (.int .i64 1))⟩,
          ⟨some 10, none, .mv (.tmp 114)⟩])))))
     (.seq (.block 8 (.loop (.seq (.seq (.draw 15 [⟨some 115, none, .mv (.tmp 10)⟩,
           ⟨some 116, none, .mv (.tmp 11)⟩,
           ⟨some 117, none, .bin .leq 0 (.tmp 115) (.tmp 116)⟩,
           ⟨some 118, none, .mv (.tmp 117)⟩,
           ⟨some 119, some (118, true), .mv (.tmp 0)⟩,
           ⟨some 120, some (118, true), .mv (.tmp 11)⟩,
           ⟨some 121, some (118, true), .ia 1 (.tmp 119) (.tmp 120)⟩,
           ⟨some 122, some (118, true), .load false 1 (.tmp 121)⟩,
           ⟨some 123, some (118, true), .mv (.tmp 0)⟩,
           ⟨some 124, some (118, true), .mv (.tmp 1)⟩,
           ⟨some 125, some (118, true), .ia 1 (.tmp 123) (.tmp 124)⟩,
           ⟨some 126, some (118, true), .load false 1 (.tmp 125)⟩,
           ⟨some 127, some (118, true), .call (.func 171) [(.tmp 122), (.tmp 126)]⟩,
           ⟨some 128, some (118, true), .not (.tmp 127)⟩,
           ⟨some 129, none, .pick (.tmp 118) (.tmp 128) (.const (.bool false))⟩])
         (.cond (.tmp 129) .skip
         (.exit 8)))
        (.block 9 (.ops [⟨some 130, none, .mv (.tmp 11)⟩,
          ⟨some 131, none, .bin .sub 0 (.tmp 130) (.const (.int .i64 1))⟩,
          ⟨some 11, none, .mv (.tmp 131)⟩])))))
     (.seq (.seq (.ops [⟨some 132, none, .mv (.tmp 10)⟩,
        ⟨some 133, none, .mv (.tmp 11)⟩,
        ⟨some 134, none, .bin .gtr 0 (.tmp 132) (.tmp 133)⟩])
      (.cond (.tmp 134) (.exit 4)
      .skip))
     (.seq (.loud 14 (.alt (.step ⟨some 141, none, .ia 1 (.tmp 139) (.tmp 140)⟩ (.alt (.step ⟨some 142, none, .load false 1 (.tmp 141)⟩ (.step ⟨some 146, none, .load false 1 (.tmp 145)⟩ (.step ⟨some 147, none, .ia 1 (.tmp 135) (.tmp 136)⟩ (.step ⟨none, none, .store 1 (.tmp 147) (.tmp 142)⟩ .leaf))))
       (.step ⟨some 146, none, .load false 1 (.tmp 145)⟩ (.step ⟨some 142, none, .load false 1 (.tmp 141)⟩ (.step ⟨some 147, none, .ia 1 (.tmp 135) (.tmp 136)⟩ (.step ⟨none, none, .store 1 (.tmp 147) (.tmp 142)⟩ .leaf))))))
       (.step ⟨some 146, none, .load false 1 (.tmp 145)⟩ (.step ⟨some 141, none, .ia 1 (.tmp 139) (.tmp 140)⟩ (.step ⟨some 142, none, .load false 1 (.tmp 141)⟩ (.step ⟨some 147, none, .ia 1 (.tmp 135) (.tmp 136)⟩ (.step ⟨none, none, .store 1 (.tmp 147) (.tmp 142)⟩ .leaf))))))
       [⟨some 135, none, .mv (.tmp 0)⟩, 
      ⟨some 136, none, .mv (.tmp 10)⟩, 
      ⟨some 137, none, .mv (.tmp 0)⟩, 
      ⟨some 138, none, .mv (.tmp 11)⟩, 
      ⟨some 139, none, .mv (.tmp 0)⟩, 
      ⟨some 140, none, .mv (.tmp 11)⟩, 
      ⟨none, none, .mv (.const undef)⟩, 
      ⟨none, none, .mv (.const undef)⟩, 
      ⟨some 143, none, .mv (.tmp 0)⟩, 
      ⟨some 144, none, .mv (.tmp 10)⟩, 
      ⟨some 145, none, .ia 1 (.tmp 143) (.tmp 144)⟩, 
      ⟨none, none, .mv (.const undef)⟩, 
      ⟨none, none, .mv (.const undef)⟩, 
      ⟨none, none, .mv (.const undef)⟩]
       [⟨some 148, none, .ia 1 (.tmp 137) (.tmp 138)⟩, ⟨none, none, .store 1 (.tmp 148) (.tmp 146)⟩])
     (.seq (.ops [⟨some 149, none, .mv (.tmp 10)⟩,
       ⟨some 150, none, .bin .add 0 (.tmp 149) (.const (.int .i64 1))⟩,
       ⟨some 10, none, .mv (.tmp 150)⟩])
     (.ops [⟨some 151, none, .mv (.tmp 11)⟩,
      ⟨some 152, none, .bin .sub 0 (.tmp 151) (.const (.int .i64 1))⟩,
      ⟨some 11, none, .mv (.tmp 152)⟩])))))))))
 (.seq (.loud 14 (.alt (.step ⟨some 159, none, .ia 1 (.tmp 157) (.tmp 158)⟩ (.alt (.step ⟨some 160, none, .load false 1 (.tmp 159)⟩ (.step ⟨some 164, none, .load false 1 (.tmp 163)⟩ (.step ⟨some 165, none, .ia 1 (.tmp 153) (.tmp 154)⟩ (.step ⟨none, none, .store 1 (.tmp 165) (.tmp 160)⟩ .leaf))))
   (.step ⟨some 164, none, .load false 1 (.tmp 163)⟩ (.step ⟨some 160, none, .load false 1 (.tmp 159)⟩ (.step ⟨some 165, none, .ia 1 (.tmp 153) (.tmp 154)⟩ (.step ⟨none, none, .store 1 (.tmp 165) (.tmp 160)⟩ .leaf))))))
   (.step ⟨some 164, none, .load false 1 (.tmp 163)⟩ (.step ⟨some 159, none, .ia 1 (.tmp 157) (.tmp 158)⟩ (.step ⟨some 160, none, .load false 1 (.tmp 159)⟩ (.step ⟨some 165, none, .ia 1 (.tmp 153) (.tmp 154)⟩ (.step ⟨none, none, .store 1 (.tmp 165) (.tmp 160)⟩ .leaf))))))
   [⟨some 153, none, .mv (.tmp 0)⟩, 
  ⟨some 154, none, .mv (.tmp 11)⟩, 
  ⟨some 155, none, .mv (.tmp 0)⟩, 
  ⟨some 156, none, .mv (.tmp 1)⟩, 
  ⟨some 157, none, .mv (.tmp 0)⟩, 
  ⟨some 158, none, .mv (.tmp 1)⟩, 
  ⟨none, none, .mv (.const undef)⟩, 
  ⟨none, none, .mv (.const undef)⟩, 
  ⟨some 161, none, .mv (.tmp 0)⟩, 
  ⟨some 162, none, .mv (.tmp 11)⟩, 
  ⟨some 163, none, .ia 1 (.tmp 161) (.tmp 162)⟩, 
  ⟨none, none, .mv (.const undef)⟩, 
  ⟨none, none, .mv (.const undef)⟩, 
  ⟨none, none, .mv (.const undef)⟩]
   [⟨some 166, none, .ia 1 (.tmp 155) (.tmp 156)⟩, ⟨none, none, .store 1 (.tmp 166) (.tmp 164)⟩])
 (.seq (.ops [⟨some 167, none, .mv (.tmp 11)⟩,
   ⟨some 8, none, .mv (.tmp 167)⟩,
   ⟨some 9, none, .mv (.const (.bool false))⟩])
 .ret))))))))))))
theorem C173_ok : Try.f173.body.bind (comp Try.prog) = some C173 := by kernel_rfl
theorem C173_res : compRs Try.prog Try.f173.results.toList = some [.tmp 8, .tmp 9] := by kernel_rfl
theorem C173_nm : (Try.f173.name == "runtime.NumGoroutine") = false := by kernel_rfl
theorem C173_fn {a0 a1 a2 a3 : AV} {H : Heap} {Q : AV → Heap → Prop} (h : vc Try.prog C173 (vcEnd [.tmp 8, .tmp 9] Q) H [a0, a1, a2, a3, .any, .any, .any, .any, .any, .any, .any, .any, .any, .any, .any, .any, .any, .any, .any, .any, .any, .any, .any, .any, .any, .any, .any, .any, .any, .any, .any, .any, .any, .any, .any, .any, .any, .any, .any, .any, .any, .any, .any, .any, .any, .any, .any, .any, .any, .any, .any, .any, .any, .any, .any, .any, .any, .any, .any, .any, .any, .any, .any, .any, .any, .any, .any, .any, .any, .any, .any, .any, .any, .any, .any, .any, .any, .any, .any, .any, .any, .any, .any, .any, .any, .any, .any, .any, .any, .any, .any, .any, .any, .any, .any, .any, .any, .any, .any, .any, .any, .any, .any, .any, .any, .any, .any, .any, .any, .any, .any, .any, .any, .any, .any, .any, .any, .any, .any, .any, .any, .any, .any, .any, .any, .any, .any, .any, .any, .any, .any, .any, .any, .any, .any, .any, .any, .any, .any, .any, .any, .any, .any, .any, .any, .any, .any, .any, .any, .any, .any, .any, .any, .any, .any, .any, .any, .any, .any, .any, .any, .any, .any, .any, .any, .any, .any, .any]) : Runs Try.prog 173 [a0, a1, a2, a3] H Q :=
  @fn_go Try.prog mixed 173 Try.f173 C173 [.tmp 8, .tmp 9] Try.func173 C173_ok C173_res C173_nm 168 Try.ntmps173 [a0, a1, a2, a3] [a0, a1, a2, a3, .any, .any, .any, .any, .any, .any, .any, .any, .any, .any, .any, .any, .any, .any, .any, .any, .any, .any, .any, .any, .any, .any, .any, .any, .any, .any, .any, .any, .any, .any, .any, .any, .any, .any, .any, .any, .any, .any, .any, .any, .any, .any, .any, .any, .any, .any, .any, .any, .any, .any, .any, .any, .any, .any, .any, .any, .any, .any, .any, .any, .any, .any, .any, .any, .any, .any, .any, .any, .any, .any, .any, .any, .any, .any, .any, .any, .any, .any, .any, .any, .any, .any, .any, .any, .any, .any, .any, .any, .any, .any, .any, .any, .any, .any, .any, .any, .any, .any, .any, .any, .any, .any, .any, .any, .any, .any, .any, .any, .any, .any, .any, .any, .any, .any, .any, .any, .any, .any, .any, .any, .any, .any, .any, .any, .any, .any, .any, .any, .any, .any, .any, .any, .any, .any, .any, .any, .any, .any, .any, .any, .any, .any, .any, .any, .any, .any, .any, .any, .any, .any, .any, .any, .any, .any, .any, .any, .any, .any, .any, .any, .any, .any, .any, .any] H Q h 164 (by kernel_rfl) (by kernel_rfl)

/-- slices.pdqsortOrdered[string] -/
def C151 : CC :=
 (.seq (.ops [⟨some 8, none, .mv (.const (.bool true))⟩])
 (.seq (.ops [⟨some 9, none, .mv (.const (.bool true))⟩])
 (.block 0 (.loop (.block 1 (.seq (.ops [⟨some 19, none, .mv (.tmp 2)⟩,
      ⟨some 20, none, .mv (.tmp 1)⟩,
      ⟨some 21, none, .bin .sub 0 (.tmp 19) (.tmp 20)⟩,
      ⟨some 10, none, .mv (.tmp 21)⟩])
    (.seq (.seq (.ops [⟨some 22, none, .mv (.tmp 10)⟩,
       ⟨some 23, none, .bin .leq 0 (.tmp 22) (.const (.int .i64 12))⟩])
     (.cond (.tmp 23) (.seq (.ops [⟨some 24, none, .mv (.tmp 0)⟩,
        ⟨some 25, none, .mv (.tmp 1)⟩,
        ⟨some 26, none, .mv (.tmp 2)⟩,
        ⟨some 27, none, .call (.func 165) [(.tmp 24), (.tmp 25), (.tmp 26)]⟩])
      .ret)
     .skip))
    (.seq (.seq (.ops [⟨some 28, none, .mv (.tmp 3)⟩,
       ⟨some 29, none, .bin .eql 0 (.tmp 28) (.const (.int .i64 0))⟩])
     (.cond (.tmp 29) (.seq (.ops [⟨some 30, none, .mv (.tmp 0)⟩,
        ⟨some 31, none, .mv (.tmp 1)⟩,
        ⟨some 32, none, .mv (.tmp 2)⟩,
        ⟨some 33, none, .call (.func 166) [(.tmp 30), (.tmp 31), (.tmp 32)]⟩])
      .ret)
     .skip))
    (.seq (.seq (.ops [⟨some 34, none, .mv (.tmp 8)⟩,
       ⟨some 35, none, .not (.tmp 34)⟩])
     (.cond (.tmp 35) (.seq (.ops [⟨some 36, none, .mv (.tmp 0)⟩,
        ⟨some 37, none, .mv (.tmp 1)⟩,
        ⟨some 38, none, .mv (.tmp 2)⟩,
        ⟨some 39, none, .call (.func 167) [(.tmp 36), (.tmp 37), (.tmp 38)]⟩])
      (.ops [⟨some 40, none, .mv (.tmp 3)⟩,
       ⟨some 41, none, .bin .sub 0 (.tmp 40) (.const (.int .i64 1))⟩,
       ⟨some 3, none, .mv (.tmp 41)⟩]))
     .skip))
    (.seq (.ops [⟨some 43, none, .mv (.tmp 0)⟩,
      ⟨some 44, none, .mv (.tmp 1)⟩,
      ⟨some 45, none, .mv (.tmp 2)⟩,
      ⟨some 46, none, .call (.func 168) [(.tmp 43), (.tmp 44), (.tmp 45)]⟩,
      ⟨some 42, none, .mv (.tmp 46)⟩,
      ⟨some 47, none, .ext (.tmp 42) 0⟩,
      ⟨some 48, none, .ext (.tmp 42) 1⟩,
      ⟨some 11, none, .mv (.tmp 47)⟩,
      ⟨some 12, none, .mv (.tmp 48)⟩])
    (.seq (.seq (.ops [⟨some 49, none, .mv (.tmp 12)⟩,
       ⟨some 50, none, .bin .eql 0 (.tmp 49) (.const (.int .i64 2))⟩])
     (.cond (.tmp 50) (.seq (.ops [⟨some 51, none, .mv (.tmp 0)⟩,
        ⟨some 52, none, .mv (.tmp 1)⟩,
        ⟨some 53, none, .mv (.tmp 2)⟩,
        ⟨some 54, none, .call (.func 169) [(.tmp 51), (.tmp 52), (.tmp 53)]⟩])
      (.seq (.ops [⟨some 55, none, .mv (.tmp 2)⟩,
        ⟨some 56, none, .bin .sub 0 (.tmp 55) (.const (.int .i64 1))⟩,
        ⟨some 57, none, .mv (.tmp 11)⟩,
        ⟨some 58, none, .mv (.tmp 1)⟩,
        ⟨some 59, none, .bin .sub 0 (.tmp 57) (.tmp 58)⟩,
        ⟨some 60, none, .bin .sub 0 (.tmp 56) (.tmp 59)⟩,
        ⟨some 11, none, .mv (.tmp 60)⟩])
      (.ops [⟨some 12, none, .mv (.const (.int .i64 1))⟩])))
     .skip))
    (.seq (.seq (.ops [⟨some 61, none, .mv (.tmp 8)⟩,
       ⟨some 62, none, .mv (.tmp 61)⟩,
       ⟨some 63, some (62, true), .mv (.tmp 9)⟩,
       ⟨some 64, none, .pick (.tmp 62) (.tmp 63) (.const (.bool false))⟩,
       ⟨some 65, none, .mv (.tmp 64)⟩,
       ⟨some 66, some (65, true), .mv (.tmp 12)⟩,
       ⟨some 67, some (65, true), .bin .eql 0 (.tmp 66) (.const (.int .i64 1))⟩,
       ⟨some 68, none, .pick (.tmp 65) (.tmp 67) (.const (.bool false))⟩])
     (.cond (.tmp 68) (.seq (.ops [⟨some 69, none, .mv (.tmp 0)⟩,
        ⟨some 70, none, .mv (.tmp 1)⟩,
        ⟨some 71, none, .mv (.tmp 2)⟩,
        ⟨some 72, none, .call (.func 170) [(.tmp 69), (.tmp 70), (.tmp 71)]⟩])
      (.cond (.tmp 72) .ret
      .skip))
     .skip))
    (.seq (.seq (.draw 15 [⟨some 73, none, .mv (.tmp 1)⟩,
       ⟨some 74, none, .bin .gtr 0 (.tmp 73) (.const (.int .i64 0))⟩,
       ⟨some 75, none, .mv (.tmp 74)⟩,
       ⟨some 76, some (75, true), .mv (.tmp 0)⟩,
       ⟨some 77, some (75, true), .mv (.tmp 1)⟩,
       ⟨some 78, some (75, true), .bin .sub 0 (.tmp 77) (.const (.int .i64 1))⟩,
       ⟨some 79, some (75, true), .ia 1 (.tmp 76) (.tmp 78)⟩,
       ⟨some 80, some (75, true), .load false 1 (.tmp 79)⟩,
       ⟨some 81, some (75, true), .mv (.tmp 0)⟩,
       ⟨some 82, some (75, true), .mv (.tmp 11)⟩,
       ⟨some 83, some (75, true), .ia 1 (.tmp 81) (.tmp 82)⟩,
       ⟨some 84, some (75, true), .load false 1 (.tmp 83)⟩,
       ⟨some 85, some (75, true), .call (.func 171) [(.tmp 80), (.tmp 84)]⟩,
       ⟨some 86, some (75, true), .not (.tmp 85)⟩,
       ⟨some 87, none, .pick (.tmp 75) (.tmp 86) (.const (.bool false))⟩])
     (.cond (.tmp 87) (.seq (.ops [⟨some 88, none, .mv (.tmp 0)⟩,
        ⟨some 89, none, .mv (.tmp 1)⟩,
        ⟨some 90, none, .mv (.tmp 2)⟩,
        ⟨some 91, none, .mv (.tmp 11)⟩,
        ⟨some 92, none, .call (.func 172) [(.tmp 88), (.tmp 89), (.tmp 90), (.tmp 91)]⟩,
        ⟨some 13, none, .mv (.tmp 92)⟩])
      (.seq (.ops [⟨some 93, none, .mv (.tmp 13)⟩,
        ⟨some 1, none, .mv (.tmp 93)⟩])
      (.exit 1)))
     .skip))
    (.seq (.ops [⟨some 95, none, .mv (.tmp 0)⟩,
      ⟨some 96, none, .mv (.tmp 1)⟩,
      ⟨some 97, none, .mv (.tmp 2)⟩,
      ⟨some 98, none, .mv (.tmp 11)⟩,
      ⟨some 99, none, .call (.func 173) [(.tmp 95), (.tmp 96), (.tmp 97), (.tmp 98)]⟩,
      ⟨some 94, none, .mv (.tmp 99)⟩,
      ⟨some 100, none, .ext (.tmp 94) 0⟩,
      ⟨some 101, none, .ext (.tmp 94) 1⟩,
      ⟨some 14, none, .mv (.tmp 100)⟩,
      ⟨some 15, none, .mv (.tmp 101)⟩])
    (.seq (.ops [⟨some 102, none, .mv (.tmp 15)⟩,
      ⟨some 9, none, .mv (.tmp 102)⟩])
    (.seq (.ops [⟨some 103, none, .mv (.tmp 14)⟩,
      ⟨some 104, none, .mv (.tmp 1)⟩,
      ⟨some 105, none, .bin .sub 0 (.tmp 103) (.tmp 104)⟩,
      ⟨some 106, none, .mv (.tmp 2)⟩,
      ⟨some 107, none, .mv (.tmp 14)⟩,
      ⟨some 108, none, .bin .sub 0 (.tmp 106) (.tmp 107)⟩,
      ⟨some 16, none, .mv (.tmp 105)⟩,
      ⟨some 17, none, .mv (.tmp 108)⟩])
    (.seq (.ops [⟨some 109, none, .mv (.tmp 10)⟩,
      ⟨some 110, none, .bin .quo 0 (.tmp 109) (.const (.int .i64 8))⟩,
      ⟨some 18, none, .mv (.tmp 110)⟩])
    (.seq (.ops [⟨some 111, none, .mv (.tmp 16)⟩,
      ⟨some 112, none, .mv (.tmp 17)⟩,
      ⟨some 113, none, .bin .lss 0 (.tmp 111) (.tmp 112)⟩])
    (.cond (.tmp 113) (.seq (.ops [⟨some 114, none, .mv (.tmp 16)⟩,
       ⟨some 115, none, .mv (.tmp 18)⟩,
       ⟨some 116, none, .bin .geq 0 (.tmp 114) (.tmp 115)⟩,
       ⟨some 8, none, .mv (.tmp 116)⟩])
     (.seq (.ops [⟨some 117, none, .mv (.tmp 0)⟩,
       ⟨some 118, none, .mv (.tmp 1)⟩,
       ⟨some 119, none, .mv (.tmp 14)⟩,
       ⟨some 120, none, .mv (.tmp 3)⟩,
       ⟨some 121, none, .call (.func 151) [(.tmp 117), (.tmp 118), (.tmp 119), (.tmp 120)]⟩])
     (.ops [⟨some 122, none, .mv (.tmp 14)⟩,
      ⟨some 123, none, .bin .add 0 (.tmp 122) (.const (.int .i64 1))⟩,
      ⟨some 1, none, .mv (.tmp 123)⟩])))
    (.seq (.ops [⟨some 124, none, .mv (.tmp 17)⟩,
       ⟨some 125, none, .mv (.tmp 18)⟩,
       ⟨some 126, none, .bin .geq 0 (.tmp 124) (.tmp 125)⟩,
       ⟨some 8, none, .mv (.tmp 126)⟩])
     (.seq (.ops [⟨some 127, none, .mv (.tmp 0)⟩,
       ⟨some 128, none, .mv (.tmp 14)⟩,
       ⟨some 129, none, .bin .add 0 (.tmp 128) (.const (.int .i64 1))⟩,
       ⟨some 130, none, .mv (.tmp 2)⟩,
       ⟨some 131, none, .mv (.tmp 3)⟩,
       ⟨some 132, none, .call (.func 151) [(.tmp 127), (.tmp 129), (.tmp 130), (.tmp 131)]⟩])
     (.ops [⟨some 133, none, .mv (.tmp 14)⟩,
      ⟨some 2, none, .mv (.tmp 133)⟩]))))))))))))))))))))))
theorem C151_ok : Try.f151.body.bind (comp Try.prog) = some C151 := by kernel_rfl
theorem C151_res : compRs Try.prog Try.f151.results.toList = some [] := by kernel_rfl
theorem C151_nm : (Try.f151.name == "runtime.NumGoroutine") = false := by kernel_rfl
theorem C151_fn {a0 a1 a2 a3 : AV} {H : Heap} {Q : AV → Heap → Prop} (h : vc Try.prog C151 (vcEnd [] Q) H [a0, a1, a2, a3, .any, .any, .any, .any, .any, .any, .any, .any, .any, .any, .any, .any, .any, .any, .any, .any, .any, .any, .any, .any, .any, .any, .any, .any, .any, .any, .any, .any, .any, .any, .any, .any, .any, .any, .any, .any, .any, .any, .any, .any, .any, .any, .any, .any, .any, .any, .any, .any, .any, .any, .any, .any, .any, .any, .any, .any, .any, .any, .any, .any, .any, .any, .any, .any, .any, .any, .any, .any, .any, .any, .any, .any, .any, .any, .any, .any, .any, .any, .any, .any, .any, .any, .any, .any, .any, .any, .any, .any, .any, .any, .any, .any, .any, .any, .any, .any, .any, .any, .any, .any, .any, .any, .any, .any, .any, .any, .any, .any, .any, .any, .any, .any, .any, .any, .any, .any, .any, .any, .any, .any, .any, .any, .any, .any, .any, .any, .any, .any, .any, .any]) : Runs Try.prog 151 [a0, a1, a2, a3] H Q :=
  @fn_go Try.prog mixed 151 Try.f151 C151 [] Try.func151 C151_ok C151_res C151_nm 134 Try.ntmps151 [a0, a1, a2, a3] [a0, a1, a2, a3, .any, .any, .any, .any, .any, .any, .any, .any, .any, .any, .any, .any, .any, .any, .any, .any, .any, .any, .any, .any, .any, .any, .any, .any, .any, .any, .any, .any, .any, .any, .any, .any, .any, .any, .any, .any, .any, .any, .any, .any, .any, .any, .any, .any, .any, .any, .any, .any, .any, .any, .any, .any, .any, .any, .any, .any, .any, .any, .any, .any, .any, .any, .any, .any, .any, .any, .any, .any, .any, .any, .any, .any, .any, .any, .any, .any, .any, .any, .any, .any, .any, .any, .any, .any, .any, .any, .any, .any, .any, .any, .any, .any, .any, .any, .any, .any, .any, .any, .any, .any, .any, .any, .any, .any, .any, .any, .any, .any, .any, .any, .any, .any, .any, .any, .any, .any, .any, .any, .any, .any, .any, .any, .any, .any, .any, .any, .any, .any, .any, .any] H Q h 130 (by kernel_rfl) (by kernel_rfl)

/-- slices.Sort[[]string,string] -/
def C125 : CC :=
 (.seq (.ops [⟨some 3, none, .mv (.tmp 0)⟩,
   ⟨some 4, none, .len false (.tmp 3)⟩,
   ⟨some 2, none, .mv (.tmp 4)⟩])
 (.ops [⟨some 5, none, .mv (.tmp 0)⟩,
  ⟨some 6, none, .mv (.tmp 2)⟩,
  ⟨some 7, none, .mv (.tmp 2)⟩,
  ⟨some 8, none, .conv .u64 (.tmp 7)⟩,
  ⟨some 9, none, .call (.func 152) [(.tmp 8)]⟩,
  ⟨some 10, none, .call (.func 151) [(.tmp 5), (.const (.int .i64 0)), (.tmp 6), (.tmp 9)]⟩]))
theorem C125_ok : Try.f125.body.bind (comp Try.prog) = some C125 := by kernel_rfl
theorem C125_res : compRs Try.prog Try.f125.results.toList = some [] := by kernel_rfl
theorem C125_nm : (Try.f125.name == "runtime.NumGoroutine") = false := by kernel_rfl
theorem C125_fn {a0 : AV} {H : Heap} {Q : AV → Heap → Prop} (h : vc Try.prog C125 (vcEnd [] Q) H [a0, .any, .any, .any, .any, .any, .any, .any, .any, .any, .any]) : Runs Try.prog 125 [a0] H Q :=
  @fn_go Try.prog mixed 125 Try.f125 C125 [] Try.func125 C125_ok C125_res C125_nm 11 Try.ntmps125 [a0] [a0, .any, .any, .any, .any, .any, .any, .any, .any, .any, .any] H Q h 10 (by kernel_rfl) (by kernel_rfl)

/-- slices.Compact[[]string,string] -/
def C126 : CC :=
 (.seq (.ops [⟨some 2, none, .mv (.const (.slice none 0 0))⟩])
 (.seq (.seq (.ops [⟨some 6, none, .mv (.tmp 0)⟩,
    ⟨some 7, none, .len false (.tmp 6)⟩,
    ⟨some 8, none, .bin .lss 0 (.tmp 7) (.const (.int .i64 2))⟩])
  (.cond (.tmp 8) (.seq (.ops [⟨some 9, none, .mv (.tmp 0)⟩,
     ⟨some 2, none, .mv (.tmp 9)⟩])
   .ret)
  .skip))
 (.seq (.seq (.ops [⟨some 3, none, .mv (.const (.int .i64 1))⟩])
  (.block 0 (.loop (.seq (.seq (.ops [⟨some 10, none, .mv (.tmp 3)⟩,
       ⟨some 11, none, .mv (.tmp 0)⟩,
       ⟨some 12, none, .len false (.tmp 11)⟩,
       ⟨some 13, none, .bin .lss 0 (.tmp 10) (.tmp 12)⟩])
     (.cond (.tmp 13) .skip
     (.exit 0)))
    (.seq (.block 1 (.seq (.draw 10 [⟨some 16, none, .mv (.tmp 0)⟩,
        ⟨some 17, none, .mv (.tmp 3)⟩,
        ⟨some 18, none, .ia 1 (.tmp 16) (.tmp 17)⟩,
        ⟨some 19, none, .load false 1 (.tmp 18)⟩,
        ⟨some 20, none, .mv (.tmp 0)⟩,
        ⟨some 21, none, .mv (.tmp 3)⟩,
        ⟨some 22, none, .bin .sub 0 (.tmp 21) (.const (.int .i64 1))⟩,
        ⟨some 23, none, .ia 1 (.tmp 20) (.tmp 22)⟩,
        ⟨some 24, none, .load false 1 (.tmp 23)⟩,
        ⟨some 25, none, .bin .eql 0 (.tmp 19) (.tmp 24)⟩])
      (.cond (.tmp 25) (.seq (.ops [⟨some 26, none, .mv (.tmp 0)⟩,
         ⟨some 27, none, .mv (.tmp 3)⟩,
         ⟨some 28, none, .slc 1 (.tmp 26) (some (.tmp 27)) none⟩,
         ⟨some 4, none, .mv (.tmp 28)⟩])
       (.seq (.seq (.ops [⟨some 5, none, .mv (.const (.int .i64 1))⟩])
        (.block 2 (.loop (.seq (.seq (.ops [⟨some 29, none, .mv (.tmp 5)⟩,
             ⟨some 30, none, .mv (.tmp 4)⟩,
             ⟨some 31, none, .len false (.tmp 30)⟩,
             ⟨some 32, none, .bin .lss 0 (.tmp 29) (.tmp 31)⟩])
           (.cond (.tmp 32) .skip
           (.exit 2)))
          (.seq (.block 3 (.seq (.draw 10 [⟨some 35, none, .mv (.tmp 4)⟩,
              ⟨some 36, none, .mv (.tmp 5)⟩,
              ⟨some 37, none, .ia 1 (.tmp 35) (.tmp 36)⟩,
              ⟨some 38, none, .load false 1 (.tmp 37)⟩,
              ⟨some 39, none, .mv (.tmp 4)⟩,
              ⟨some 40, none, .mv (.tmp 5)⟩,
              ⟨some 41, none, .bin .sub 0 (.tmp 40) (.const (.int .i64 1))⟩,
              ⟨some 42, none, .ia 1 (.tmp 39) (.tmp 41)⟩,
              ⟨some 43, none, .load false 1 (.tmp 42)⟩,
              ⟨some 44, none, .bin .neq 0 (.tmp 38) (.tmp 43)⟩])
            (.cond (.tmp 44) (.seq (.ops [⟨some 45, none, .mv (.tmp 0)⟩,
               ⟨some 46, none, .mv (.tmp 3)⟩,
               ⟨some 47, none, .mv (.tmp 4)⟩,
               ⟨some 48, none, .mv (.tmp 5)⟩,
               ⟨some 49, none, .ia 1 (.tmp 47) (.tmp 48)⟩,
               ⟨some 50, none, .load false 1 (.tmp 49)⟩,
               ⟨some 51, none, .ia 1 (.tmp 45) (.tmp 46)⟩,
               ⟨none, none, .store 1 (.tmp 51) (.tmp 50)⟩])
             (.ops [⟨some 52, none, .mv (.tmp 3)⟩,
              ⟨some 53, none, .bin .add 0 (.tmp 52) (.const (.int .i64 1))⟩,
              ⟨some 3, none, .mv (.tmp 53)⟩]))
            .skip)))
          (.ops [⟨some 33, none, .mv (.tmp 5)⟩,
           ⟨some 34, none, .bin .add 0 (.tmp 33) (.const (.int .i64 1))⟩,
           ⟨some 5, none, .mv (.tmp 34)⟩]))))))
       (.seq .dead
       (.seq (.ops [⟨some 57, none, .mv (.tmp 0)⟩,
         ⟨some 58, none, .mv (.tmp 3)⟩,
         ⟨some 59, none, .slc 1 (.tmp 57) none (some (.tmp 58))⟩,
         ⟨some 2, none, .mv (.tmp 59)⟩])
       .ret))))
      .skip)))
    (.ops [⟨some 14, none, .mv (.tmp 3)⟩,
     ⟨some 15, none, .bin .add 0 (.tmp 14) (.const (.int .i64 1))⟩,
     ⟨some 3, none, .mv (.tmp 15)⟩]))))))
 (.seq (.ops [⟨some 60, none, .mv (.tmp 0)⟩,
   ⟨some 2, none, .mv (.tmp 60)⟩])
 .ret))))
theorem C126_ok : Try.f126.body.bind (comp Try.prog) = some C126 := by kernel_rfl
theorem C126_res : compRs Try.prog Try.f126.results.toList = some [.tmp 2] := by kernel_rfl
theorem C126_nm : (Try.f126.name == "runtime.NumGoroutine") = false := by kernel_rfl
theorem C126_fn {a0 : AV} {H : Heap} {Q : AV → Heap → Prop} (h : vc Try.prog C126 (vcEnd [.tmp 2] Q) H [a0, .any, .any, .any, .any, .any, .any, .any, .any, .any, .any, .any, .any, .any, .any, .any, .any, .any, .any, .any, .any, .any, .any, .any, .any, .any, .any, .any, .any, .any, .any, .any, .any, .any, .any, .any, .any, .any, .any, .any, .any, .any, .any, .any, .any, .any, .any, .any, .any, .any, .any, .any, .any, .any, .any, .any, .any, .any, .any, .any, .any]) : Runs Try.prog 126 [a0] H Q :=
  @fn_go Try.prog mixed 126 Try.f126 C126 [.tmp 2] Try.func126 C126_ok C126_res C126_nm 61 Try.ntmps126 [a0] [a0, .any, .any, .any, .any, .any, .any, .any, .any, .any, .any, .any, .any, .any, .any, .any, .any, .any, .any, .any, .any, .any, .any, .any, .any, .any, .any, .any, .any, .any, .any, .any, .any, .any, .any, .any, .any, .any, .any, .any, .any, .any, .any, .any, .any, .any, .any, .any, .any, .any, .any, .any, .any, .any, .any, .any, .any, .any, .any, .any, .any] H Q h 60 (by kernel_rfl) (by kernel_rfl)

/-- impl.sortedSet -/
def C97 : CC :=
 (.seq (.ops [⟨some 2, none, .mv (.const (.slice none 0 0))⟩])
 (.seq (.ops [⟨some 4, none, .mv (.tmp 0)⟩,
   ⟨some 5, none, .call (.func 124) [(.tmp 4)]⟩,
   ⟨some 3, none, .mv (.tmp 5)⟩])
 (.seq (.ops [⟨some 6, none, .mv (.tmp 3)⟩,
   ⟨some 7, none, .call (.func 125) [(.tmp 6)]⟩])
 (.seq (.ops [⟨some 8, none, .mv (.tmp 3)⟩,
   ⟨some 9, none, .call (.func 126) [(.tmp 8)]⟩,
   ⟨some 2, none, .mv (.tmp 9)⟩])
 .ret))))
theorem C97_ok : Try.f97.body.bind (comp Try.prog) = some C97 := by kernel_rfl
theorem C97_res : compRs Try.prog Try.f97.results.toList = some [.tmp 2] := by kernel_rfl
theorem C97_nm : (Try.f97.name == "runtime.NumGoroutine") = false := by kernel_rfl
theorem C97_fn {a0 : AV} {H : Heap} {Q : AV → Heap → Prop} (h : vc Try.prog C97 (vcEnd [.tmp 2] Q) H [a0, .any, .any, .any, .any, .any, .any, .any, .any, .any]) : Runs Try.prog 97 [a0] H Q :=
  @fn_go Try.prog mixed 97 Try.f97 C97 [.tmp 2] Try.func97 C97_ok C97_res C97_nm 10 Try.ntmps97 [a0] [a0, .any, .any, .any, .any, .any, .any, .any, .any, .any] H Q h 9 (by kernel_rfl) (by kernel_rfl)

/-- impl.OpenParties -/
def C40 : CC :=
 (.seq (.ops [⟨some 2, none, .mv (.const (.slice none 0 0))⟩,
   ⟨some 3, none, .mv (.const (.int .i64 0))⟩])
 (.seq (.seq (.ops [⟨some 7, none, .mv (.tmp 0)⟩,
    ⟨some 8, none, .call (.func 18) [(.tmp 7)]⟩,
    ⟨some 9, none, .not (.tmp 8)⟩])
  (.cond (.tmp 9) (.seq (.ops [⟨some 2, none, .mv (.const (.slice none 0 0))⟩,
     ⟨some 3, none, .mv (.const (.int .i64 1))⟩])
   .ret)
  .skip))
 (.seq (.ops [⟨some 10, none, .lit 1 []⟩,
   ⟨some 4, none, .mv (.tmp 10)⟩])
 (.seq (.seq (.ops [⟨some 11, none, .mv (.tmp 0)⟩,
    ⟨some 12, none, .len false (.tmp 11)⟩,
    ⟨some 13, none, .mv (.const (.int .i64 0))⟩])
  (.block 0 (.loop (.seq (.ops [⟨some 14, none, .bin .lss 0 (.tmp 13) (.tmp 12)⟩])
    (.seq (.cond (.tmp 14) .skip
     (.exit 0))
    (.seq (.block 1 (.seq (.ops [⟨some 15, none, .ia 4 (.tmp 11) (.tmp 13)⟩,
        ⟨some 16, none, .load true 4 (.tmp 15)⟩,
        ⟨some 6, none, .alloc [.string ⟨#[]⟩, .int .i64 0, .int .i64 0, .int .i64 0]⟩,
        ⟨none, none, .store 4 (.tmp 6) (.tmp 16)⟩])
      (.seq (.ops [⟨some 17, none, .load true 4 (.tmp 6)⟩,
        ⟨some 18, none, .call (.func 87) [(.tmp 17)]⟩])
      (.cond (.tmp 18) (.ops [⟨some 19, none, .mv (.tmp 4)⟩,
        ⟨some 20, none, .fa 0 (.tmp 6)⟩,
        ⟨some 21, none, .load false 1 (.tmp 20)⟩,
        ⟨some 22, none, .lit 1 [(.tmp 21)]⟩,
        ⟨some 23, none, .app 1 16 (.tmp 19) (.tmp 22)⟩,
        ⟨some 4, none, .mv (.tmp 23)⟩])
      .skip))))
    (.ops [⟨some 24, none, .bin .add 0 (.tmp 13) (.const (.int .i64 1))⟩,
     ⟨some 13, none, .mv (.tmp 24)⟩])))))))
 (.seq (.ops [⟨some 25, none, .mv (.tmp 4)⟩,
   ⟨some 26, none, .call (.func 97) [(.tmp 25)]⟩,
   ⟨some 2, none, .mv (.tmp 26)⟩,
   ⟨some 3, none, .mv (.const (.int .i64 0))⟩])
 .ret)))))
theorem C40_ok : Try.f40.body.bind (comp Try.prog) = some C40 := by kernel_rfl
theorem C40_res : compRs Try.prog Try.f40.results.toList = some [.tmp 2, .tmp 3] := by kernel_rfl
theorem C40_nm : (Try.f40.name == "runtime.NumGoroutine") = false := by kernel_rfl
theorem C40_fn {a0 : AV} {H : Heap} {Q : AV → Heap → Prop} (h : vc Try.prog C40 (vcEnd [.tmp 2, .tmp 3] Q) H [a0, .any, .any, .any, .any, .any, .any, .any, .any, .any, .any, .any, .any, .any, .any, .any, .any, .any, .any, .any, .any, .any, .any, .any, .any, .any, .any]) : Runs Try.prog 40 [a0] H Q :=
  @fn_go Try.prog mixed 40 Try.f40 C40 [.tmp 2, .tmp 3] Try.func40 C40_ok C40_res C40_nm 27 Try.ntmps40 [a0] [a0, .any, .any, .any, .any, .any, .any, .any, .any, .any, .any, .any, .any, .any, .any, .any, .any, .any, .any, .any, .any, .any, .any, .any, .any, .any, .any] H Q h 26 (by kernel_rfl) (by kernel_rfl)

/-- laws.eqStringS -/
def C41 : CC :=
 (.seq (.ops [⟨some 4, none, .mv (.const (.bool false))⟩])
 (.seq (.seq (.ops [⟨some 6, none, .mv (.tmp 0)⟩,
    ⟨some 7, none, .len false (.tmp 6)⟩,
    ⟨some 8, none, .mv (.tmp 1)⟩,
    ⟨some 9, none, .len false (.tmp 8)⟩,
    ⟨some 10, none, .bin .neq 0 (.tmp 7) (.tmp 9)⟩])
  (.cond (.tmp 10) (.seq (.ops [⟨some 4, none, .mv (.const (.bool false))⟩])
   .ret)
  .skip))
 (.seq (.seq (.ops [⟨some 5, none, .mv (.const (.int .i64 0))⟩])
  (.block 0 (.loop (.seq (.seq (.ops [⟨some 11, none, .mv (.tmp 5)⟩,
       ⟨some 12, none, .mv (.tmp 0)⟩,
       ⟨some 13, none, .len false (.tmp 12)⟩,
       ⟨some 14, none, .bin .lss 0 (.tmp 11) (.tmp 13)⟩])
     (.cond (.tmp 14) .skip
     (.exit 0)))
    (.seq (.block 1 (.seq (.draw 9 [⟨some 17, none, .mv (.tmp 0)⟩,
        ⟨some 18, none, .mv (.tmp 5)⟩,
        ⟨some 19, none, .ia 1 (.tmp 17) (.tmp 18)⟩,
        ⟨some 20, none, .load false 1 (.tmp 19)⟩,
        ⟨some 21, none, .mv (.tmp 1)⟩,
        ⟨some 22, none, .mv (.tmp 5)⟩,
        ⟨some 23, none, .ia 1 (.tmp 21) (.tmp 22)⟩,
        ⟨some 24, none, .load false 1 (.tmp 23)⟩,
        ⟨some 25, none, .bin .neq 0 (.tmp 20) (.tmp 24)⟩])
      (.cond (.tmp 25) (.seq (.ops [⟨some 4, none, .mv (.const (.bool false))⟩])
       .ret)
      .skip)))
    (.ops [⟨some 15, none, .mv (.tmp 5)⟩,
     ⟨some 16, none, .bin .add 0 (.tmp 15) (.const (.int .i64 1))⟩,
     ⟨some 5, none, .mv (.tmp 16)⟩]))))))
 (.seq (.ops [⟨some 4, none, .mv (.const (.bool true))⟩])
 .ret))))
theorem C41_ok : Try.f41.body.bind (comp Try.prog) = some C41 := by kernel_rfl
theorem C41_res : compRs Try.prog Try.f41.results.toList = some [.tmp 4] := by kernel_rfl
theorem C41_nm : (Try.f41.name == "runtime.NumGoroutine") = false := by kernel_rfl
theorem C41_fn {a0 a1 : AV} {H : Heap} {Q : AV → Heap → Prop} (h : vc Try.prog C41 (vcEnd [.tmp 4] Q) H [a0, a1, .any, .any, .any, .any, .any, .any, .any, .any, .any, .any, .any, .any, .any, .any, .any, .any, .any, .any, .any, .any, .any, .any, .any, .any]) : Runs Try.prog 41 [a0, a1] H Q :=
  @fn_go Try.prog mixed 41 Try.f41 C41 [.tmp 4] Try.func41 C41_ok C41_res C41_nm 26 Try.ntmps41 [a0, a1] [a0, a1, .any, .any, .any, .any, .any, .any, .any, .any, .any, .any, .any, .any, .any, .any, .any, .any, .any, .any, .any, .any, .any, .any, .any, .any] H Q h 24 (by kernel_rfl) (by kernel_rfl)

/-- laws.markStringS -/
def C42 : CC :=
 (.seq (.ops [⟨some 4, none, .mv (.const (.int .i64 0))⟩])
 (.seq (.seq (.ops [⟨some 5, none, .mv (.const (.int .i64 0))⟩])
  (.block 0 (.loop (.seq (.seq (.ops [⟨some 6, none, .mv (.tmp 5)⟩,
       ⟨some 7, none, .mv (.tmp 0)⟩,
       ⟨some 8, none, .len false (.tmp 7)⟩,
       ⟨some 9, none, .bin .lss 0 (.tmp 6) (.tmp 8)⟩])
     (.cond (.tmp 9) .skip
     (.exit 0)))
    (.seq (.block 1 (.seq (.ops [⟨some 12, none, .mv (.tmp 0)⟩,
        ⟨some 13, none, .mv (.tmp 5)⟩,
        ⟨some 14, none, .mv (.tmp 1)⟩,
        ⟨some 15, none, .call (.func 91) [(.tmp 14)]⟩,
        ⟨some 16, none, .ia 1 (.tmp 12) (.tmp 13)⟩,
        ⟨none, none, .store 1 (.tmp 16) (.tmp 15)⟩])
      (.ops [⟨some 17, none, .mv (.tmp 1)⟩,
       ⟨some 18, none, .bin .add 0 (.tmp 17) (.const (.int .i64 1))⟩,
       ⟨some 1, none, .mv (.tmp 18)⟩])))
    (.ops [⟨some 10, none, .mv (.tmp 5)⟩,
     ⟨some 11, none, .bin .add 0 (.tmp 10) (.const (.int .i64 1))⟩,
     ⟨some 5, none, .mv (.tmp 11)⟩]))))))
 (.seq (.ops [⟨some 19, none, .mv (.tmp 1)⟩,
   ⟨some 4, none, .mv (.tmp 19)⟩])
 .ret)))
theorem C42_ok : Try.f42.body.bind (comp Try.prog) = some C42 := by kernel_rfl
theorem C42_res : compRs Try.prog Try.f42.results.toList = some [.tmp 4] := by kernel_rfl
theorem C42_nm : (Try.f42.name == "runtime.NumGoroutine") = false := by kernel_rfl
theorem C42_fn {a0 a1 : AV} {H : Heap} {Q : AV → Heap → Prop} (h : vc Try.prog C42 (vcEnd [.tmp 4] Q) H [a0, a1, .any, .any, .any, .any, .any, .any, .any, .any, .any, .any, .any, .any, .any, .any, .any, .any, .any, .any]) : Runs Try.prog 42 [a0, a1] H Q :=
  @fn_go Try.prog mixed 42 Try.f42 C42 [.tmp 4] Try.func42 C42_ok C42_res C42_nm 20 Try.ntmps42 [a0, a1] [a0, a1, .any, .any, .any, .any, .any, .any, .any, .any, .any, .any, .any, .any, .any, .any, .any, .any, .any, .any] H Q h 18 (by kernel_rfl) (by kernel_rfl)

/-- laws.heldStringS -/
def C43 : CC :=
 (.seq (.ops [⟨some 4, none, .mv (.const (.int .i64 0))⟩])
 (.seq (.seq (.ops [⟨some 5, none, .mv (.const (.int .i64 0))⟩])
  (.block 0 (.loop (.seq (.seq (.ops [⟨some 6, none, .mv (.tmp 5)⟩,
       ⟨some 7, none, .mv (.tmp 0)⟩,
       ⟨some 8, none, .len false (.tmp 7)⟩,
       ⟨some 9, none, .bin .lss 0 (.tmp 6) (.tmp 8)⟩])
     (.cond (.tmp 9) .skip
     (.exit 0)))
    (.seq (.block 1 (.seq (.seq (.draw 7 [⟨some 12, none, .mv (.tmp 0)⟩,
         ⟨some 13, none, .mv (.tmp 5)⟩,
         ⟨some 14, none, .ia 1 (.tmp 12) (.tmp 13)⟩,
         ⟨some 15, none, .load false 1 (.tmp 14)⟩,
         ⟨some 16, none, .mv (.tmp 1)⟩,
         ⟨some 17, none, .call (.func 91) [(.tmp 16)]⟩,
         ⟨some 18, none, .bin .neq 0 (.tmp 15) (.tmp 17)⟩])
       (.cond (.tmp 18) (.seq (.ops [⟨some 4, none, .mv (.const (.int .i64 (-1)))⟩])
        .ret)
       .skip))
      (.ops [⟨some 19, none, .mv (.tmp 1)⟩,
       ⟨some 20, none, .bin .add 0 (.tmp 19) (.const (.int .i64 1))⟩,
       ⟨some 1, none, .mv (.tmp 20)⟩])))
    (.ops [⟨some 10, none, .mv (.tmp 5)⟩,
     ⟨some 11, none, .bin .add 0 (.tmp 10) (.const (.int .i64 1))⟩,
     ⟨some 5, none, .mv (.tmp 11)⟩]))))))
 (.seq (.ops [⟨some 21, none, .mv (.tmp 1)⟩,
   ⟨some 4, none, .mv (.tmp 21)⟩])
 .ret)))
theorem C43_ok : Try.f43.body.bind (comp Try.prog) = some C43 := by kernel_rfl
theorem C43_res : compRs Try.prog Try.f43.results.toList = some [.tmp 4] := by kernel_rfl
theorem C43_nm : (Try.f43.name == "runtime.NumGoroutine") = false := by kernel_rfl
theorem C43_fn {a0 a1 : AV} {H : Heap} {Q : AV → Heap → Prop} (h : vc Try.prog C43 (vcEnd [.tmp 4] Q) H [a0, a1, .any, .any, .any, .any, .any, .any, .any, .any, .any, .any, .any, .any, .any, .any, .any, .any, .any, .any, .any, .any]) : Runs Try.prog 43 [a0, a1] H Q :=
  @fn_go Try.prog mixed 43 Try.f43 C43 [.tmp 4] Try.func43 C43_ok C43_res C43_nm 22 Try.ntmps43 [a0, a1] [a0, a1, .any, .any, .any, .any, .any, .any, .any, .any, .any, .any, .any, .any, .any, .any, .any, .any, .any, .any, .any, .any] H Q h 20 (by kernel_rfl) (by kernel_rfl)

/-- laws.FnExactOpenParties -/
def C11 : CC :=
 (.seq (.ops [⟨some 2, none, .mv (.const (.bool false))⟩])
 (.seq (.ops [⟨some 3, none, .mv (.const (.int .i64 1048576))⟩])
 (.seq (.ops [⟨some 14, none, .mv (.tmp 0)⟩,
   ⟨some 15, none, .mv (.tmp 3)⟩,
   ⟨some 16, none, .call (.func 15) [(.tmp 14), (.tmp 15)]⟩,
   ⟨some 3, none, .mv (.tmp 16)⟩])
 (.seq (.seq (.ops [⟨some 17, none, .mv (.tmp 3)⟩,
    ⟨some 18, none, .bin .lss 0 (.tmp 17) (.const (.int .i64 0))⟩])
  (.cond (.tmp 18) (.seq (.ops [⟨some 2, none, .mv (.const (.bool true))⟩])
   .ret)
  .skip))
 (.seq (.ops [⟨some 20, none, .mv (.tmp 0)⟩,
   ⟨some 21, none, .call (.func 17) [(.tmp 20)]⟩,
   ⟨some 22, none, .call (.func 39) [(.tmp 21)]⟩,
   ⟨some 19, none, .mv (.tmp 22)⟩,
   ⟨some 23, none, .ext (.tmp 19) 0⟩,
   ⟨some 24, none, .ext (.tmp 19) 1⟩,
   ⟨some 4, none, .mv (.tmp 23)⟩,
   ⟨some 5, none, .mv (.tmp 24)⟩])
 (.seq (.ops [⟨some 25, none, .mv (.tmp 0)⟩,
   ⟨some 26, none, .call (.func 17) [(.tmp 25)]⟩,
   ⟨some 6, none, .mv (.tmp 26)⟩])
 (.seq (.ops [⟨some 28, none, .mv (.tmp 6)⟩,
   ⟨some 29, none, .call (.func 40) [(.tmp 28)]⟩,
   ⟨some 27, none, .mv (.tmp 29)⟩,
   ⟨some 30, none, .ext (.tmp 27) 0⟩,
   ⟨some 31, none, .ext (.tmp 27) 1⟩,
   ⟨some 7, none, .mv (.tmp 30)⟩,
   ⟨some 8, none, .mv (.tmp 31)⟩])
 (.seq (.seq (.ops [⟨some 32, none, .mv (.tmp 7)⟩,
    ⟨some 33, none, .mv (.tmp 4)⟩,
    ⟨some 34, none, .call (.func 41) [(.tmp 32), (.tmp 33)]⟩,
    ⟨some 35, none, .not (.tmp 34)⟩,
    ⟨some 36, none, .mv (.tmp 35)⟩,
    ⟨some 37, some (36, false), .mv (.tmp 8)⟩,
    ⟨some 38, some (36, false), .mv (.tmp 5)⟩,
    ⟨some 39, some (36, false), .bin .neq 0 (.tmp 37) (.tmp 38)⟩,
    ⟨some 40, none, .pick (.tmp 36) (.const (.bool true)) (.tmp 39)⟩])
  (.cond (.tmp 40) (.seq (.ops [⟨some 2, none, .mv (.const (.bool false))⟩])
   .ret)
  .skip))
 (.seq (.seq (.ops [⟨some 41, none, .mv (.tmp 6)⟩,
    ⟨some 42, none, .mv (.tmp 0)⟩,
    ⟨some 43, none, .call (.func 17) [(.tmp 42)]⟩,
    ⟨some 44, none, .call (.func 19) [(.tmp 41), (.tmp 43)]⟩,
    ⟨some 45, none, .not (.tmp 44)⟩])
  (.cond (.tmp 45) (.seq (.ops [⟨some 2, none, .mv (.const (.bool false))⟩])
   .ret)
  .skip))
 (.seq (.ops [⟨some 9, none, .mv (.const (.int .i64 1))⟩])
 (.seq (.ops [⟨some 46, none, .mv (.tmp 6)⟩,
   ⟨some 47, none, .mv (.tmp 9)⟩,
   ⟨some 48, none, .call (.func 29) [(.tmp 46), (.tmp 47)]⟩,
   ⟨some 9, none, .mv (.tmp 48)⟩])
 (.seq (.seq (.ops [⟨some 49, none, .mv (.tmp 9)⟩,
    ⟨some 50, none, .bin .lss 0 (.tmp 49) (.const (.int .i64 0))⟩,
    ⟨some 51, none, .mv (.tmp 50)⟩,
    ⟨some 52, some (51, false), .mv (.tmp 7)⟩,
    ⟨some 53, some (51, false), .mv (.tmp 4)⟩,
    ⟨some 54, some (51, false), .call (.func 41) [(.tmp 52), (.tmp 53)]⟩,
    ⟨some 55, some (51, false), .not (.tmp 54)⟩,
    ⟨some 56, none, .pick (.tmp 51) (.const (.bool true)) (.tmp 55)⟩,
    ⟨some 57, none, .mv (.tmp 56)⟩,
    ⟨some 58, some (57, false), .mv (.tmp 8)⟩,
    ⟨some 59, some (57, false), .mv (.tmp 5)⟩,
    ⟨some 60, some (57, false), .bin .neq 0 (.tmp 58) (.tmp 59)⟩,
    ⟨some 61, none, .pick (.tmp 57) (.const (.bool true)) (.tmp 60)⟩])
  (.cond (.tmp 61) (.seq (.ops [⟨some 2, none, .mv (.const (.bool false))⟩])
   .ret)
  .skip))
 (.seq (.ops [⟨some 10, none, .mv (.const (.int .i64 1))⟩])
 (.seq (.ops [⟨some 62, none, .mv (.tmp 7)⟩,
   ⟨some 63, none, .mv (.tmp 10)⟩,
   ⟨some 64, none, .call (.func 42) [(.tmp 62), (.tmp 63)]⟩,
   ⟨some 10, none, .mv (.tmp 64)⟩])
 (.seq (.ops [⟨some 11, none, .mv (.const (.int .i64 1))⟩])
 (.seq (.ops [⟨some 65, none, .mv (.tmp 7)⟩,
   ⟨some 66, none, .mv (.tmp 11)⟩,
   ⟨some 67, none, .call (.func 43) [(.tmp 65), (.tmp 66)]⟩,
   ⟨some 11, none, .mv (.tmp 67)⟩])
 (.seq (.seq (.ops [⟨some 68, none, .mv (.tmp 11)⟩,
    ⟨some 69, none, .bin .lss 0 (.tmp 68) (.const (.int .i64 0))⟩])
  (.cond (.tmp 69) (.seq (.ops [⟨some 2, none, .mv (.const (.bool false))⟩])
   .ret)
  .skip))
 (.seq (.seq (.ops [⟨some 70, none, .mv (.tmp 11)⟩,
    ⟨some 71, none, .mv (.tmp 10)⟩,
    ⟨some 72, none, .bin .neq 0 (.tmp 70) (.tmp 71)⟩])
  (.cond (.tmp 72) (.seq (.ops [⟨some 2, none, .mv (.const (.bool false))⟩])
   .ret)
  .skip))
 (.seq (.ops [⟨some 74, none, .mv (.tmp 0)⟩,
   ⟨some 75, none, .call (.func 17) [(.tmp 74)]⟩,
   ⟨some 76, none, .call (.func 40) [(.tmp 75)]⟩,
   ⟨some 73, none, .mv (.tmp 76)⟩,
   ⟨some 77, none, .ext (.tmp 73) 0⟩,
   ⟨some 78, none, .ext (.tmp 73) 1⟩,
   ⟨some 12, none, .mv (.tmp 77)⟩,
   ⟨some 13, none, .mv (.tmp 78)⟩])
 (.seq (.seq (.ops [⟨some 79, none, .mv (.tmp 12)⟩,
    ⟨some 80, none, .mv (.tmp 4)⟩,
    ⟨some 81, none, .call (.func 41) [(.tmp 79), (.tmp 80)]⟩,
    ⟨some 82, none, .not (.tmp 81)⟩,
    ⟨some 83, none, .mv (.tmp 82)⟩,
    ⟨some 84, some (83, false), .mv (.tmp 13)⟩,
    ⟨some 85, some (83, false), .mv (.tmp 5)⟩,
    ⟨some 86, some (83, false), .bin .neq 0 (.tmp 84) (.tmp 85)⟩,
    ⟨some 87, none, .pick (.tmp 83) (.const (.bool true)) (.tmp 86)⟩])
  (.cond (.tmp 87) (.seq (.ops [⟨some 2, none, .mv (.const (.bool false))⟩])
   .ret)
  .skip))
 (.seq (.ops [⟨some 11, none, .mv (.const (.int .i64 1))⟩])
 (.seq (.ops [⟨some 88, none, .mv (.tmp 7)⟩,
   ⟨some 89, none, .mv (.tmp 11)⟩,
   ⟨some 90, none, .call (.func 43) [(.tmp 88), (.tmp 89)]⟩,
   ⟨some 11, none, .mv (.tmp 90)⟩])
 (.seq (.seq (.ops [⟨some 91, none, .mv (.tmp 11)⟩,
    ⟨some 92, none, .bin .lss 0 (.tmp 91) (.const (.int .i64 0))⟩])
  (.cond (.tmp 92) (.seq (.ops [⟨some 2, none, .mv (.const (.bool false))⟩])
   .ret)
  .skip))
 (.seq (.seq (.ops [⟨some 93, none, .mv (.tmp 11)⟩,
    ⟨some 94, none, .mv (.tmp 10)⟩,
    ⟨some 95, none, .bin .neq 0 (.tmp 93) (.tmp 94)⟩])
  (.cond (.tmp 95) (.seq (.ops [⟨some 2, none, .mv (.const (.bool false))⟩])
   .ret)
  .skip))
 (.seq (.ops [⟨some 2, none, .mv (.const (.bool true))⟩])
 .ret)))))))))))))))))))))))))
theorem C11_ok : Try.f11.body.bind (comp Try.prog) = some C11 := by kernel_rfl
theorem C11_res : compRs Try.prog Try.f11.results.toList = some [.tmp 2] := by kernel_rfl
theorem C11_nm : (Try.f11.name == "runtime.NumGoroutine") = false := by kernel_rfl
theorem C11_fn {a0 : AV} {H : Heap} {Q : AV → Heap → Prop} (h : vc Try.prog C11 (vcEnd [.tmp 2] Q) H [a0, .any, .any, .any, .any, .any, .any, .any, .any, .any, .any, .any, .any, .any, .any, .any, .any, .any, .any, .any, .any, .any, .any, .any, .any, .any, .any, .any, .any, .any, .any, .any, .any, .any, .any, .any, .any, .any, .any, .any, .any, .any, .any, .any, .any, .any, .any, .any, .any, .any, .any, .any, .any, .any, .any, .any, .any, .any, .any, .any, .any, .any, .any, .any, .any, .any, .any, .any, .any, .any, .any, .any, .any, .any, .any, .any, .any, .any, .any, .any, .any, .any, .any, .any, .any, .any, .any, .any, .any, .any, .any, .any, .any, .any, .any, .any]) : Runs Try.prog 11 [a0] H Q :=
  @fn_go Try.prog mixed 11 Try.f11 C11 [.tmp 2] Try.func11 C11_ok C11_res C11_nm 96 Try.ntmps11 [a0] [a0, .any, .any, .any, .any, .any, .any, .any, .any, .any, .any, .any, .any, .any, .any, .any, .any, .any, .any, .any, .any, .any, .any, .any, .any, .any, .any, .any, .any, .any, .any, .any, .any, .any, .any, .any, .any, .any, .any, .any, .any, .any, .any, .any, .any, .any, .any, .any, .any, .any, .any, .any, .any, .any, .any, .any, .any, .any, .any, .any, .any, .any, .any, .any, .any, .any, .any, .any, .any, .any, .any, .any, .any, .any, .any, .any, .any, .any, .any, .any, .any, .any, .any, .any, .any, .any, .any, .any, .any, .any, .any, .any, .any, .any, .any, .any] H Q h 95 (by kernel_rfl) (by kernel_rfl)

/-- laws.szPolicy -/
def C45 : CC :=
 (.seq (.ops [⟨some 2, none, .box (.tmp 0)⟩,
   ⟨some 4, none, .mv (.const (.int .i64 0))⟩])
 (.seq (.ops [⟨some 5, none, .mv (.tmp 1)⟩,
   ⟨some 6, none, .fa 0 (.tmp 2)⟩,
   ⟨some 7, none, .load false 1 (.tmp 6)⟩,
   ⟨some 8, none, .len true (.tmp 7)⟩,
   ⟨some 9, none, .bin .sub 0 (.tmp 5) (.tmp 8)⟩,
   ⟨some 1, none, .mv (.tmp 9)⟩])
 (.seq (.seq (.ops [⟨some 10, none, .mv (.tmp 1)⟩,
    ⟨some 11, none, .bin .lss 0 (.tmp 10) (.const (.int .i64 0))⟩])
  (.cond (.tmp 11) (.seq (.ops [⟨some 4, none, .mv (.const (.int .i64 (-1)))⟩])
   .ret)
  .skip))
 (.seq (.ops [⟨some 12, none, .mv (.tmp 1)⟩,
   ⟨some 13, none, .fa 1 (.tmp 2)⟩,
   ⟨some 14, none, .load false 1 (.tmp 13)⟩,
   ⟨some 15, none, .len true (.tmp 14)⟩,
   ⟨some 16, none, .bin .sub 0 (.tmp 12) (.tmp 15)⟩,
   ⟨some 1, none, .mv (.tmp 16)⟩])
 (.seq (.seq (.ops [⟨some 17, none, .mv (.tmp 1)⟩,
    ⟨some 18, none, .bin .lss 0 (.tmp 17) (.const (.int .i64 0))⟩])
  (.cond (.tmp 18) (.seq (.ops [⟨some 4, none, .mv (.const (.int .i64 (-1)))⟩])
   .ret)
  .skip))
 (.seq (.ops [⟨some 19, none, .mv (.tmp 1)⟩,
   ⟨some 4, none, .mv (.tmp 19)⟩])
 .ret))))))
theorem C45_ok : Try.f45.body.bind (comp Try.prog) = some C45 := by kernel_rfl
theorem C45_res : compRs Try.prog Try.f45.results.toList = some [.tmp 4] := by kernel_rfl
theorem C45_nm : (Try.f45.name == "runtime.NumGoroutine") = false := by kernel_rfl
theorem C45_fn {a0 a1 : AV} {H : Heap} {Q : AV → Heap → Prop} (h : vc Try.prog C45 (vcEnd [.tmp 4] Q) H [a0, a1, .any, .any, .any, .any, .any, .any, .any, .any, .any, .any, .any, .any, .any, .any, .any, .any, .any, .any]) : Runs Try.prog 45 [a0, a1] H Q :=
  @fn_go Try.prog mixed 45 Try.f45 C45 [.tmp 4] Try.func45 C45_ok C45_res C45_nm 20 Try.ntmps45 [a0, a1] [a0, a1, .any, .any, .any, .any, .any, .any, .any, .any, .any, .any, .any, .any, .any, .any, .any, .any, .any, .any] H Q h 18 (by kernel_rfl) (by kernel_rfl)

/-- laws.szPolicyS -/
def C44 : CC :=
 (.seq (.ops [⟨some 4, none, .mv (.const (.int .i64 0))⟩])
 (.seq (.ops [⟨some 6, none, .mv (.tmp 1)⟩,
   ⟨some 7, none, .mv (.tmp 0)⟩,
   ⟨some 8, none, .len false (.tmp 7)⟩,
   ⟨some 9, none, .bin .sub 0 (.tmp 6) (.tmp 8)⟩,
   ⟨some 1, none, .mv (.tmp 9)⟩])
 (.seq (.seq (.ops [⟨some 10, none, .mv (.tmp 1)⟩,
    ⟨some 11, none, .bin .lss 0 (.tmp 10) (.const (.int .i64 0))⟩])
  (.cond (.tmp 11) (.seq (.ops [⟨some 4, none, .mv (.const (.int .i64 (-1)))⟩])
   .ret)
  .skip))
 (.seq (.seq (.ops [⟨some 5, none, .mv (.const (.int .i64 0))⟩])
  (.block 0 (.loop (.seq (.seq (.ops [⟨some 12, none, .mv (.tmp 5)⟩,
       ⟨some 13, none, .mv (.tmp 0)⟩,
       ⟨some 14, none, .len false (.tmp 13)⟩,
       ⟨some 15, none, .bin .lss 0 (.tmp 12) (.tmp 14)⟩])
     (.cond (.tmp 15) .skip
     (.exit 0)))
    (.seq (.block 1 (.seq (.ops [⟨some 18, none, .mv (.tmp 0)⟩,
        ⟨some 19, none, .mv (.tmp 5)⟩,
        ⟨some 20, none, .ia 3 (.tmp 18) (.tmp 19)⟩,
        ⟨some 21, none, .load true 3 (.tmp 20)⟩,
        ⟨some 22, none, .mv (.tmp 1)⟩,
        ⟨some 23, none, .call (.func 45) [(.tmp 21), (.tmp 22)]⟩,
        ⟨some 1, none, .mv (.tmp 23)⟩])
      (.seq (.ops [⟨some 24, none, .mv (.tmp 1)⟩,
        ⟨some 25, none, .bin .lss 0 (.tmp 24) (.const (.int .i64 0))⟩])
      (.cond (.tmp 25) (.seq (.ops [⟨some 4, none, .mv (.const (.int .i64 (-1)))⟩])
       .ret)
      .skip))))
    (.ops [⟨some 16, none, .mv (.tmp 5)⟩,
     ⟨some 17, none, .bin .add 0 (.tmp 16) (.const (.int .i64 1))⟩,
     ⟨some 5, none, .mv (.tmp 17)⟩]))))))
 (.seq (.ops [⟨some 26, none, .mv (.tmp 1)⟩,
   ⟨some 4, none, .mv (.tmp 26)⟩])
 .ret)))))
theorem C44_ok : Try.f44.body.bind (comp Try.prog) = some C44 := by kernel_rfl
theorem C44_res : compRs Try.prog Try.f44.results.toList = some [.tmp 4] := by kernel_rfl
theorem C44_nm : (Try.f44.name == "runtime.NumGoroutine") = false := by kernel_rfl
theorem C44_fn {a0 a1 : AV} {H : Heap} {Q : AV → Heap → Prop} (h : vc Try.prog C44 (vcEnd [.tmp 4] Q) H [a0, a1, .any, .any, .any, .any, .any, .any, .any, .any, .any, .any, .any, .any, .any, .any, .any, .any, .any, .any, .any, .any, .any, .any, .any, .any, .any]) : Runs Try.prog 44 [a0, a1] H Q :=
  @fn_go Try.prog mixed 44 Try.f44 C44 [.tmp 4] Try.func44 C44_ok C44_res C44_nm 27 Try.ntmps44 [a0, a1] [a0, a1, .any, .any, .any, .any, .any, .any, .any, .any, .any, .any, .any, .any, .any, .any, .any, .any, .any, .any, .any, .any, .any, .any, .any, .any, .any] H Q h 25 (by kernel_rfl) (by kernel_rfl)

/-- spec.IsAmount -/
def C105 : CC :=
 (.seq (.ops [⟨some 2, none, .mv (.const (.bool false))⟩])
 (.seq (.ops [⟨some 3, none, .mv (.tmp 0)⟩,
   ⟨some 4, none, .call (.func 73) [(.tmp 3), (.const (.int .i64 0)), (.const (.int .i64 1000000000))]⟩,
   ⟨some 2, none, .mv (.tmp 4)⟩])
 .ret))
theorem C105_ok : Try.f105.body.bind (comp Try.prog) = some C105 := by kernel_rfl
theorem C105_res : compRs Try.prog Try.f105.results.toList = some [.tmp 2] := by kernel_rfl
theorem C105_nm : (Try.f105.name == "runtime.NumGoroutine") = false := by kernel_rfl
theorem C105_fn {a0 : AV} {H : Heap} {Q : AV → Heap → Prop} (h : vc Try.prog C105 (vcEnd [.tmp 2] Q) H [a0, .any, .any, .any, .any]) : Runs Try.prog 105 [a0] H Q :=
  @fn_go Try.prog mixed 105 Try.f105 C105 [.tmp 2] Try.func105 C105_ok C105_res C105_nm 5 Try.ntmps105 [a0] [a0, .any, .any, .any, .any] H Q h 4 (by kernel_rfl) (by kernel_rfl)

end Go.Proofs.Ytpaflfaokgapgaa
