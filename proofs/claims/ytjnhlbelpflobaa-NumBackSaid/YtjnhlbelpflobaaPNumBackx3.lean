-- Written for this claim by a program of this seat (a turned copy of the printer)
import Derived.Test.YtjnhlbelpflobaaPNumBackx0
import Derived.Test.YtjnhlbelpflobaaPNumBackx1
import Derived.Test.YtjnhlbelpflobaaPNumBackx2
namespace Go.Proofs.Ytjnhlbelpflobaa.PNumBack
open Go.RowKit Go.Proofs.YtjnhlbelpflobaaW.PrintWords Go.Proofs.YtjnhlbelpflobaaW.PrintLast Go.Proofs.YtjnhlbelpflobaaW.PrintMore
attribute [local go_sem] max2_int min2_int max_two min_two max_three min_three max_four min_four   -- for this text's walks alone
set_option linter.unusedVariables false
set_option linter.unusedSimpArgs false

/-! ### donatuslaw1_NumBack: function 3 -/
def donatuslaw1_NumBack.f (k : Nat) (l0 : List Int) (l1 : List Int) (a2 : Int) (a3 : ByteArray) (a4 : Int) : Option (Bool) := (donatuslaw1_begun.f k).bind fun t162 => (if t162 = true then ((donatuslaw1_Short.f l0 20).bind fun t163 => ((donatuslaw1_Short.f l1 20).bind fun t166 => ((donatuslaw1_Cut.f a3 100).bind fun t169 => (if ([] : List Int).length + t163.length < 140737488355328 then ((num_Put.f k (([] : List Int) ++ t163) a2).bind fun t173 => ((donatusref1_Put.f k a2).bind fun t176 => (if (strOfNums t163).size + (strOfNums t176).size ≤ 9223372036854775807 then (if (strOfNums t173).toList = ((strOfNums t163) ++ (strOfNums t176)).toList then (if 0 ≤ (t163.length : Int) then (if (t163.length : Int) ≤ (t173.length : Int) then ((some (t173.drop ((t163.length : Int) : Int).toNat : List Int)).bind fun y179 => (if ([] : List Int).length + y179.length < 140737488355328 then ((some (([] : List Int) ++ y179 : List Int)).bind fun y183 => (if y183.length + t166.length < 140737488355328 then ((num_Get.f k (y183 ++ t166)).bind fun bt189 => ((num_PutText.f k (([] : List Int) ++ t163) t169).bind fun t195 => (if (t163.length : Int) ≤ (t195.length : Int) then ((some (t195.drop ((t163.length : Int) : Int).toNat : List Int)).bind fun y198 => (if ([] : List Int).length + y198.length < 140737488355328 then ((some (([] : List Int) ++ y198 : List Int)).bind fun y202 => (if y202.length + t166.length < 140737488355328 then ((num_GetText.f k (y202 ++ t166)).bind fun bt208 => (if bt189.2.2 = 0 then (if bt189.1 = a2 then (if bt189.2.1 = (wrap64 ((t173.length : Int) - (t163.length : Int))) then ((donatusref1_PutText.f k t169).bind fun t214 => (if (strOfNums t163).size + (strOfNums t214).size ≤ 9223372036854775807 then (if (strOfNums t195).toList = ((strOfNums t163) ++ (strOfNums t214)).toList then (if bt208.2.2 = 0 then (if bt208.1.toList = t169.toList then (if bt208.2.1 = (wrap64 ((t195.length : Int) - (t163.length : Int))) then ((num_Four.f a4).bind fun t217 => (some ((strOfNums t217).toList == (strOfNums (([(a4 / 16777216) % 256, (a4 / 65536) % 256, (a4 / 256) % 256, (a4) % 256] : List Int))).toList))) else (none)) else (none)) else (none)) else (none)) else (none))) else (none)) else (none)) else (none))) else (none))) else (none))) else (none)))) else (none))) else (none))) else (none)) else (none)) else (none)) else (none)))) else (none))))) else (none))
theorem donatuslaw1_NumBack.mono : ∀ a0 a1 a2 a3 a4 k, LeO (donatuslaw1_NumBack.f k a0 a1 a2 a3 a4) (donatuslaw1_NumBack.f (k + 1) a0 a1 a2 a3 a4) := by
  intro a0 a1 a2 a3 a4 k
  unfold donatuslaw1_NumBack.f
  repeat' first
      | (with_reducible exact donatuslaw1_begun.mono _)
      | (with_reducible exact donatusref1_Put.mono _ _)
      | (with_reducible exact donatusref1_PutText.mono _ _)
      | (with_reducible exact num_Get.mono _ _)
      | (with_reducible exact num_GetText.mono _ _)
      | (with_reducible exact num_Put.mono _ _ _)
      | (with_reducible exact num_PutText.mono _ _ _)
      | (with_reducible exact LeO.refl _)
      | (with_reducible exact LeO.none _)
      | (with_reducible refine LeO.ite ?_ ?_)
      | (with_reducible refine LeO.bind ?_ (fun _ => ?_))
      | exact donatuslaw1_begun.mono _
      | exact donatusref1_Put.mono _ _
      | exact donatusref1_PutText.mono _ _
      | exact num_Get.mono _ _
      | exact num_GetText.mono _ _
      | exact num_Put.mono _ _ _
      | exact num_PutText.mono _ _ _
      | exact LeO.none _
      | refine LeO.ite ?_ ?_
      | refine LeO.bind ?_ (fun _ => ?_)
def donatuslaw1_NumBack.T6 : Bool × List (List Nat × List Nat) := (true, [([], []), ([0], [0]), ([], []), ([2], [2]), ([], []), ([4], [4]), ([5], [5]), ([3, 6], [3, 6]), ([1, 7], [1, 7])])
def donatuslaw1_NumBack.B6 : List Nat := [0, 1, 0, 4, 0, 16, 48, 124, 255]
theorem donatuslaw1_NumBack.tab6 : rtab .any (opsOf Try.f3 6) = donatuslaw1_NumBack.T6 := by kernel_rfl
theorem donatuslaw1_NumBack.bits6 : waitsOk donatuslaw1_NumBack.T6.2 donatuslaw1_NumBack.B6 = true := by kernel_rfl
def donatuslaw1_NumBack.T12 : Bool × List (List Nat × List Nat) := (true, [([], []), ([0], [0]), ([1], [1]), ([2], [2]), ([2], [2]), ([3, 4, 2], [2, 3, 4]), ([2, 5], [2, 5]), ([6, 2], [6]), ([7], [7]), ([7], [7]), ([9, 7], [7, 9]), ([7], [7]), ([11, 7], [7, 11]), ([10, 12, 7], [7, 10, 12]), ([8, 13, 7], [7, 8, 13]), ([7, 14], [7, 14]), ([15, 7], [15]), ([16], [16]), ([17, 16], [16, 17]), ([16], [16]), ([19, 16], [16, 19]), ([16], [16]), ([21, 16, 16], [16, 21]), ([22, 16], [16, 22]), ([20, 23, 16], [16, 20, 23]), ([18, 24, 16], [16, 18, 24]), ([16, 25], [16, 25]), ([26, 22], [26]), ([27], [27]), ([28, 27], [27, 28]), ([27, 29], [27, 29]), ([30, 27], [30]), ([31], [31]), ([31], [31]), ([32, 33, 31], [31, 32, 33]), ([31, 34], [31, 34]), ([35, 31], [35]), ([36], [36]), ([36], [36]), ([38, 36], [36, 38]), ([36], [36]), ([40, 36], [36, 40]), ([39, 41, 36], [36, 39, 41]), ([37, 42, 36], [36, 37, 42]), ([36, 43], [36, 43]), ([44, 36], [44]), ([45], [45]), ([46, 45, 45], [45, 46]), ([47, 45], [45, 47]), ([45], [45]), ([48, 49, 45], [45, 48, 49]), ([45, 50], [45, 50]), ([51, 47, 0, 1, 2, 3, 4, 5, 6, 7, 8, 9, 10, 11, 12, 13, 14, 15, 16, 17, 18, 19, 20, 21, 22, 23, 24, 25, 26, 27, 28, 29, 30, 31, 32, 33, 34, 35, 36, 37, 38, 39, 40, 41, 42, 43, 44, 45, 46, 47, 48, 49, 50, 51], [51])])
def donatuslaw1_NumBack.B12 : List Nat := [0, 1, 3, 7, 7, 31, 63, 127, 255, 255, 767, 255, 2303, 7935, 16383, 32767, 65535, 131071, 262143, 131071, 655359, 131071, 2228223, 6422527, 16383999, 33554431, 67108863, 134217727, 268435455, 536870911, 1073741823, 2147483647, 4294967295, 4294967295, 17179869183, 34359738367, 68719476735, 137438953471, 137438953471, 412316860415, 137438953471, 1236950581247, 4260607557631, 8796093022207, 17592186044415, 35184372088831, 70368744177663, 140737488355327, 281474976710655, 70368744177663, 1125899906842623, 2251799813685247, 4503599627370495]
theorem donatuslaw1_NumBack.tab12 : rtab .any (opsOf Try.f3 12) = donatuslaw1_NumBack.T12 := by kernel_rfl
theorem donatuslaw1_NumBack.bits12 : waitsOk donatuslaw1_NumBack.T12.2 donatuslaw1_NumBack.B12 = true := by kernel_rfl
set_option maxHeartbeats 8000000 in
set_option maxRecDepth 100000 in
theorem donatuslaw1_NumBack.calls (k : Nat) (A0 : Option Addr) (c0 : Nat) (l0 : List Int) (A1 : Option Addr) (c1 : Nat) (l1 : List Int) (a2 : Int) (a3 : ByteArray) (a4 : Int) (r : Bool) (w : World) (hr0 : Kd.C (Kd.int .u8) w A0 l0.length l0) (hc0 : l0.length ≤ c0) (hr1 : Kd.C (Kd.int .u8) w A1 l1.length l1) (hc1 : l1.length ≤ c1) (h : donatuslaw1_NumBack.f k l0 l1 a2 a3 a4 = some r) :
    Calls Try.prog 3 #[.slice A0 l0.length c0, .slice A1 l1.length c1, .int .i64 a2, .string a3, .int .u32 a4] w fun e w' => e = .returned (.bool r) ∧ Below w.heap.size w w' := by
  have HR0 := Aside0.mk hr0
  have HC0 := Aside0.mk hc0
  clear hr0 hc0
  have HR1 := Aside0.mk hr1
  have HC1 := Aside0.mk hc1
  clear hr1 hc1
  have HB := Aside0.mk (Below.refl w.heap.size w)
  have H : ((donatuslaw1_begun.f k).bind fun t162 => (if t162 = true then ((donatuslaw1_Short.f l0 20).bind fun t163 => ((donatuslaw1_Short.f l1 20).bind fun t166 => ((donatuslaw1_Cut.f a3 100).bind fun t169 => (if ([] : List Int).length + t163.length < 140737488355328 then ((num_Put.f k (([] : List Int) ++ t163) a2).bind fun t173 => ((donatusref1_Put.f k a2).bind fun t176 => (if (strOfNums t163).size + (strOfNums t176).size ≤ 9223372036854775807 then (if (strOfNums t173).toList = ((strOfNums t163) ++ (strOfNums t176)).toList then (if 0 ≤ (t163.length : Int) then (if (t163.length : Int) ≤ (t173.length : Int) then ((some (t173.drop ((t163.length : Int) : Int).toNat : List Int)).bind fun y179 => (if ([] : List Int).length + y179.length < 140737488355328 then ((some (([] : List Int) ++ y179 : List Int)).bind fun y183 => (if y183.length + t166.length < 140737488355328 then ((num_Get.f k (y183 ++ t166)).bind fun bt189 => ((num_PutText.f k (([] : List Int) ++ t163) t169).bind fun t195 => (if (t163.length : Int) ≤ (t195.length : Int) then ((some (t195.drop ((t163.length : Int) : Int).toNat : List Int)).bind fun y198 => (if ([] : List Int).length + y198.length < 140737488355328 then ((some (([] : List Int) ++ y198 : List Int)).bind fun y202 => (if y202.length + t166.length < 140737488355328 then ((num_GetText.f k (y202 ++ t166)).bind fun bt208 => (if bt189.2.2 = 0 then (if bt189.1 = a2 then (if bt189.2.1 = (wrap64 ((t173.length : Int) - (t163.length : Int))) then ((donatusref1_PutText.f k t169).bind fun t214 => (if (strOfNums t163).size + (strOfNums t214).size ≤ 9223372036854775807 then (if (strOfNums t195).toList = ((strOfNums t163) ++ (strOfNums t214)).toList then (if bt208.2.2 = 0 then (if bt208.1.toList = t169.toList then (if bt208.2.1 = (wrap64 ((t195.length : Int) - (t163.length : Int))) then ((num_Four.f a4).bind fun t217 => (some ((strOfNums t217).toList == (strOfNums (([(a4 / 16777216) % 256, (a4 / 65536) % 256, (a4 / 256) % 256, (a4) % 256] : List Int))).toList))) else (none)) else (none)) else (none)) else (none)) else (none))) else (none)) else (none)) else (none))) else (none))) else (none))) else (none)))) else (none))) else (none))) else (none)) else (none)) else (none)) else (none)))) else (none))))) else (none))) = some r := h
  clear h
  replace H := Option.bind_eq_some_iff.mp H
  obtain ⟨t162, A60, H⟩ := H
  replace H : (if t162 = true then ((donatuslaw1_Short.f l0 20).bind fun t163 => ((donatuslaw1_Short.f l1 20).bind fun t166 => ((donatuslaw1_Cut.f a3 100).bind fun t169 => (if ([] : List Int).length + t163.length < 140737488355328 then ((num_Put.f k (([] : List Int) ++ t163) a2).bind fun t173 => ((donatusref1_Put.f k a2).bind fun t176 => (if (strOfNums t163).size + (strOfNums t176).size ≤ 9223372036854775807 then (if (strOfNums t173).toList = ((strOfNums t163) ++ (strOfNums t176)).toList then (if 0 ≤ (t163.length : Int) then (if (t163.length : Int) ≤ (t173.length : Int) then ((some (t173.drop ((t163.length : Int) : Int).toNat : List Int)).bind fun y179 => (if ([] : List Int).length + y179.length < 140737488355328 then ((some (([] : List Int) ++ y179 : List Int)).bind fun y183 => (if y183.length + t166.length < 140737488355328 then ((num_Get.f k (y183 ++ t166)).bind fun bt189 => ((num_PutText.f k (([] : List Int) ++ t163) t169).bind fun t195 => (if (t163.length : Int) ≤ (t195.length : Int) then ((some (t195.drop ((t163.length : Int) : Int).toNat : List Int)).bind fun y198 => (if ([] : List Int).length + y198.length < 140737488355328 then ((some (([] : List Int) ++ y198 : List Int)).bind fun y202 => (if y202.length + t166.length < 140737488355328 then ((num_GetText.f k (y202 ++ t166)).bind fun bt208 => (if bt189.2.2 = 0 then (if bt189.1 = a2 then (if bt189.2.1 = (wrap64 ((t173.length : Int) - (t163.length : Int))) then ((donatusref1_PutText.f k t169).bind fun t214 => (if (strOfNums t163).size + (strOfNums t214).size ≤ 9223372036854775807 then (if (strOfNums t195).toList = ((strOfNums t163) ++ (strOfNums t214)).toList then (if bt208.2.2 = 0 then (if bt208.1.toList = t169.toList then (if bt208.2.1 = (wrap64 ((t195.length : Int) - (t163.length : Int))) then ((num_Four.f a4).bind fun t217 => (some ((strOfNums t217).toList == (strOfNums (([(a4 / 16777216) % 256, (a4 / 65536) % 256, (a4 / 256) % 256, (a4) % 256] : List Int))).toList))) else (none)) else (none)) else (none)) else (none)) else (none))) else (none)) else (none)) else (none))) else (none))) else (none))) else (none)))) else (none))) else (none))) else (none)) else (none)) else (none)) else (none)))) else (none))))) else (none)) = some r := H
  have A6 := Aside0.mk A60
  clear A60
  by_cases c7 : t162 = true
  · subst c7
    have H1 : ((donatuslaw1_Short.f l0 20).bind fun t163 => ((donatuslaw1_Short.f l1 20).bind fun t166 => ((donatuslaw1_Cut.f a3 100).bind fun t169 => (if ([] : List Int).length + t163.length < 140737488355328 then ((num_Put.f k (([] : List Int) ++ t163) a2).bind fun t173 => ((donatusref1_Put.f k a2).bind fun t176 => (if (strOfNums t163).size + (strOfNums t176).size ≤ 9223372036854775807 then (if (strOfNums t173).toList = ((strOfNums t163) ++ (strOfNums t176)).toList then (if 0 ≤ (t163.length : Int) then (if (t163.length : Int) ≤ (t173.length : Int) then ((some (t173.drop ((t163.length : Int) : Int).toNat : List Int)).bind fun y179 => (if ([] : List Int).length + y179.length < 140737488355328 then ((some (([] : List Int) ++ y179 : List Int)).bind fun y183 => (if y183.length + t166.length < 140737488355328 then ((num_Get.f k (y183 ++ t166)).bind fun bt189 => ((num_PutText.f k (([] : List Int) ++ t163) t169).bind fun t195 => (if (t163.length : Int) ≤ (t195.length : Int) then ((some (t195.drop ((t163.length : Int) : Int).toNat : List Int)).bind fun y198 => (if ([] : List Int).length + y198.length < 140737488355328 then ((some (([] : List Int) ++ y198 : List Int)).bind fun y202 => (if y202.length + t166.length < 140737488355328 then ((num_GetText.f k (y202 ++ t166)).bind fun bt208 => (if bt189.2.2 = 0 then (if bt189.1 = a2 then (if bt189.2.1 = (wrap64 ((t173.length : Int) - (t163.length : Int))) then ((donatusref1_PutText.f k t169).bind fun t214 => (if (strOfNums t163).size + (strOfNums t214).size ≤ 9223372036854775807 then (if (strOfNums t195).toList = ((strOfNums t163) ++ (strOfNums t214)).toList then (if bt208.2.2 = 0 then (if bt208.1.toList = t169.toList then (if bt208.2.1 = (wrap64 ((t195.length : Int) - (t163.length : Int))) then ((num_Four.f a4).bind fun t217 => (some ((strOfNums t217).toList == (strOfNums (([(a4 / 16777216) % 256, (a4 / 65536) % 256, (a4 / 256) % 256, (a4) % 256] : List Int))).toList))) else (none)) else (none)) else (none)) else (none)) else (none))) else (none)) else (none)) else (none))) else (none))) else (none))) else (none)))) else (none))) else (none))) else (none)) else (none)) else (none)) else (none)))) else (none))))) = some r := by rw [if_pos rfl] at H; exact H
    clear H
    have H := H1
    clear H1
    replace H := Option.bind_eq_some_iff.mp H
    obtain ⟨t163, A80, H⟩ := H
    replace H : ((donatuslaw1_Short.f l1 20).bind fun t166 => ((donatuslaw1_Cut.f a3 100).bind fun t169 => (if ([] : List Int).length + t163.length < 140737488355328 then ((num_Put.f k (([] : List Int) ++ t163) a2).bind fun t173 => ((donatusref1_Put.f k a2).bind fun t176 => (if (strOfNums t163).size + (strOfNums t176).size ≤ 9223372036854775807 then (if (strOfNums t173).toList = ((strOfNums t163) ++ (strOfNums t176)).toList then (if 0 ≤ (t163.length : Int) then (if (t163.length : Int) ≤ (t173.length : Int) then ((some (t173.drop ((t163.length : Int) : Int).toNat : List Int)).bind fun y179 => (if ([] : List Int).length + y179.length < 140737488355328 then ((some (([] : List Int) ++ y179 : List Int)).bind fun y183 => (if y183.length + t166.length < 140737488355328 then ((num_Get.f k (y183 ++ t166)).bind fun bt189 => ((num_PutText.f k (([] : List Int) ++ t163) t169).bind fun t195 => (if (t163.length : Int) ≤ (t195.length : Int) then ((some (t195.drop ((t163.length : Int) : Int).toNat : List Int)).bind fun y198 => (if ([] : List Int).length + y198.length < 140737488355328 then ((some (([] : List Int) ++ y198 : List Int)).bind fun y202 => (if y202.length + t166.length < 140737488355328 then ((num_GetText.f k (y202 ++ t166)).bind fun bt208 => (if bt189.2.2 = 0 then (if bt189.1 = a2 then (if bt189.2.1 = (wrap64 ((t173.length : Int) - (t163.length : Int))) then ((donatusref1_PutText.f k t169).bind fun t214 => (if (strOfNums t163).size + (strOfNums t214).size ≤ 9223372036854775807 then (if (strOfNums t195).toList = ((strOfNums t163) ++ (strOfNums t214)).toList then (if bt208.2.2 = 0 then (if bt208.1.toList = t169.toList then (if bt208.2.1 = (wrap64 ((t195.length : Int) - (t163.length : Int))) then ((num_Four.f a4).bind fun t217 => (some ((strOfNums t217).toList == (strOfNums (([(a4 / 16777216) % 256, (a4 / 65536) % 256, (a4 / 256) % 256, (a4) % 256] : List Int))).toList))) else (none)) else (none)) else (none)) else (none)) else (none))) else (none)) else (none)) else (none))) else (none))) else (none))) else (none)))) else (none))) else (none))) else (none)) else (none)) else (none)) else (none)))) else (none)))) = some r := H
    have A8 := Aside0.mk A80
    clear A80
    replace H := Option.bind_eq_some_iff.mp H
    obtain ⟨t166, A90, H⟩ := H
    replace H : ((donatuslaw1_Cut.f a3 100).bind fun t169 => (if ([] : List Int).length + t163.length < 140737488355328 then ((num_Put.f k (([] : List Int) ++ t163) a2).bind fun t173 => ((donatusref1_Put.f k a2).bind fun t176 => (if (strOfNums t163).size + (strOfNums t176).size ≤ 9223372036854775807 then (if (strOfNums t173).toList = ((strOfNums t163) ++ (strOfNums t176)).toList then (if 0 ≤ (t163.length : Int) then (if (t163.length : Int) ≤ (t173.length : Int) then ((some (t173.drop ((t163.length : Int) : Int).toNat : List Int)).bind fun y179 => (if ([] : List Int).length + y179.length < 140737488355328 then ((some (([] : List Int) ++ y179 : List Int)).bind fun y183 => (if y183.length + t166.length < 140737488355328 then ((num_Get.f k (y183 ++ t166)).bind fun bt189 => ((num_PutText.f k (([] : List Int) ++ t163) t169).bind fun t195 => (if (t163.length : Int) ≤ (t195.length : Int) then ((some (t195.drop ((t163.length : Int) : Int).toNat : List Int)).bind fun y198 => (if ([] : List Int).length + y198.length < 140737488355328 then ((some (([] : List Int) ++ y198 : List Int)).bind fun y202 => (if y202.length + t166.length < 140737488355328 then ((num_GetText.f k (y202 ++ t166)).bind fun bt208 => (if bt189.2.2 = 0 then (if bt189.1 = a2 then (if bt189.2.1 = (wrap64 ((t173.length : Int) - (t163.length : Int))) then ((donatusref1_PutText.f k t169).bind fun t214 => (if (strOfNums t163).size + (strOfNums t214).size ≤ 9223372036854775807 then (if (strOfNums t195).toList = ((strOfNums t163) ++ (strOfNums t214)).toList then (if bt208.2.2 = 0 then (if bt208.1.toList = t169.toList then (if bt208.2.1 = (wrap64 ((t195.length : Int) - (t163.length : Int))) then ((num_Four.f a4).bind fun t217 => (some ((strOfNums t217).toList == (strOfNums (([(a4 / 16777216) % 256, (a4 / 65536) % 256, (a4 / 256) % 256, (a4) % 256] : List Int))).toList))) else (none)) else (none)) else (none)) else (none)) else (none))) else (none)) else (none)) else (none))) else (none))) else (none))) else (none)))) else (none))) else (none))) else (none)) else (none)) else (none)) else (none)))) else (none))) = some r := H
    have A9 := Aside0.mk A90
    clear A90
    replace H := Option.bind_eq_some_iff.mp H
    obtain ⟨t169, A100, H⟩ := H
    replace H : (if ([] : List Int).length + t163.length < 140737488355328 then ((num_Put.f k (([] : List Int) ++ t163) a2).bind fun t173 => ((donatusref1_Put.f k a2).bind fun t176 => (if (strOfNums t163).size + (strOfNums t176).size ≤ 9223372036854775807 then (if (strOfNums t173).toList = ((strOfNums t163) ++ (strOfNums t176)).toList then (if 0 ≤ (t163.length : Int) then (if (t163.length : Int) ≤ (t173.length : Int) then ((some (t173.drop ((t163.length : Int) : Int).toNat : List Int)).bind fun y179 => (if ([] : List Int).length + y179.length < 140737488355328 then ((some (([] : List Int) ++ y179 : List Int)).bind fun y183 => (if y183.length + t166.length < 140737488355328 then ((num_Get.f k (y183 ++ t166)).bind fun bt189 => ((num_PutText.f k (([] : List Int) ++ t163) t169).bind fun t195 => (if (t163.length : Int) ≤ (t195.length : Int) then ((some (t195.drop ((t163.length : Int) : Int).toNat : List Int)).bind fun y198 => (if ([] : List Int).length + y198.length < 140737488355328 then ((some (([] : List Int) ++ y198 : List Int)).bind fun y202 => (if y202.length + t166.length < 140737488355328 then ((num_GetText.f k (y202 ++ t166)).bind fun bt208 => (if bt189.2.2 = 0 then (if bt189.1 = a2 then (if bt189.2.1 = (wrap64 ((t173.length : Int) - (t163.length : Int))) then ((donatusref1_PutText.f k t169).bind fun t214 => (if (strOfNums t163).size + (strOfNums t214).size ≤ 9223372036854775807 then (if (strOfNums t195).toList = ((strOfNums t163) ++ (strOfNums t214)).toList then (if bt208.2.2 = 0 then (if bt208.1.toList = t169.toList then (if bt208.2.1 = (wrap64 ((t195.length : Int) - (t163.length : Int))) then ((num_Four.f a4).bind fun t217 => (some ((strOfNums t217).toList == (strOfNums (([(a4 / 16777216) % 256, (a4 / 65536) % 256, (a4 / 256) % 256, (a4) % 256] : List Int))).toList))) else (none)) else (none)) else (none)) else (none)) else (none))) else (none)) else (none)) else (none))) else (none))) else (none))) else (none)))) else (none))) else (none))) else (none)) else (none)) else (none)) else (none)))) else (none)) = some r := H
    have A10 := Aside0.mk A100
    clear A100
    by_cases c11 : ([] : List Int).length + t163.length < 140737488355328
    · rw [if_pos c11] at H
      have LMc11 := Aside0.mk c11
      clear c11
      obtain ⟨y170, hy170⟩ : ∃ y_ : List Int, y_ = (([] : List Int) ++ t163) := ⟨_, rfl⟩
      replace H : ((num_Put.f k y170 a2).bind fun t173 => ((donatusref1_Put.f k a2).bind fun t176 => (if (strOfNums t163).size + (strOfNums t176).size ≤ 9223372036854775807 then (if (strOfNums t173).toList = ((strOfNums t163) ++ (strOfNums t176)).toList then (if 0 ≤ (t163.length : Int) then (if (t163.length : Int) ≤ (t173.length : Int) then ((some (t173.drop ((t163.length : Int) : Int).toNat : List Int)).bind fun y179 => (if ([] : List Int).length + y179.length < 140737488355328 then ((some (([] : List Int) ++ y179 : List Int)).bind fun y183 => (if y183.length + t166.length < 140737488355328 then ((num_Get.f k (y183 ++ t166)).bind fun bt189 => ((num_PutText.f k (([] : List Int) ++ t163) t169).bind fun t195 => (if (t163.length : Int) ≤ (t195.length : Int) then ((some (t195.drop ((t163.length : Int) : Int).toNat : List Int)).bind fun y198 => (if ([] : List Int).length + y198.length < 140737488355328 then ((some (([] : List Int) ++ y198 : List Int)).bind fun y202 => (if y202.length + t166.length < 140737488355328 then ((num_GetText.f k (y202 ++ t166)).bind fun bt208 => (if bt189.2.2 = 0 then (if bt189.1 = a2 then (if bt189.2.1 = (wrap64 ((t173.length : Int) - (t163.length : Int))) then ((donatusref1_PutText.f k t169).bind fun t214 => (if (strOfNums t163).size + (strOfNums t214).size ≤ 9223372036854775807 then (if (strOfNums t195).toList = ((strOfNums t163) ++ (strOfNums t214)).toList then (if bt208.2.2 = 0 then (if bt208.1.toList = t169.toList then (if bt208.2.1 = (wrap64 ((t195.length : Int) - (t163.length : Int))) then ((num_Four.f a4).bind fun t217 => (some ((strOfNums t217).toList == (strOfNums (([(a4 / 16777216) % 256, (a4 / 65536) % 256, (a4 / 256) % 256, (a4) % 256] : List Int))).toList))) else (none)) else (none)) else (none)) else (none)) else (none))) else (none)) else (none)) else (none))) else (none))) else (none))) else (none)))) else (none))) else (none))) else (none)) else (none)) else (none)) else (none)))) = some r := by first | (rw [hy170]; with_reducible exact H) | (have H2_ := (Option.bind_some _ _).symm.trans H; rw [hy170]; with_reducible exact H2_) | (have H2_ := (Option.bind_some _ _).symm.trans H; with_reducible exact H2_) | with_reducible exact H | (rw [hy170]; exact H) | exact H
      have Ny170 := Aside0.mk hy170
      clear hy170
      replace H := Option.bind_eq_some_iff.mp H
      obtain ⟨t173, A120, H⟩ := H
      replace H : ((donatusref1_Put.f k a2).bind fun t176 => (if (strOfNums t163).size + (strOfNums t176).size ≤ 9223372036854775807 then (if (strOfNums t173).toList = ((strOfNums t163) ++ (strOfNums t176)).toList then (if 0 ≤ (t163.length : Int) then (if (t163.length : Int) ≤ (t173.length : Int) then ((some (t173.drop ((t163.length : Int) : Int).toNat : List Int)).bind fun y179 => (if ([] : List Int).length + y179.length < 140737488355328 then ((some (([] : List Int) ++ y179 : List Int)).bind fun y183 => (if y183.length + t166.length < 140737488355328 then ((num_Get.f k (y183 ++ t166)).bind fun bt189 => ((num_PutText.f k (([] : List Int) ++ t163) t169).bind fun t195 => (if (t163.length : Int) ≤ (t195.length : Int) then ((some (t195.drop ((t163.length : Int) : Int).toNat : List Int)).bind fun y198 => (if ([] : List Int).length + y198.length < 140737488355328 then ((some (([] : List Int) ++ y198 : List Int)).bind fun y202 => (if y202.length + t166.length < 140737488355328 then ((num_GetText.f k (y202 ++ t166)).bind fun bt208 => (if bt189.2.2 = 0 then (if bt189.1 = a2 then (if bt189.2.1 = (wrap64 ((t173.length : Int) - (t163.length : Int))) then ((donatusref1_PutText.f k t169).bind fun t214 => (if (strOfNums t163).size + (strOfNums t214).size ≤ 9223372036854775807 then (if (strOfNums t195).toList = ((strOfNums t163) ++ (strOfNums t214)).toList then (if bt208.2.2 = 0 then (if bt208.1.toList = t169.toList then (if bt208.2.1 = (wrap64 ((t195.length : Int) - (t163.length : Int))) then ((num_Four.f a4).bind fun t217 => (some ((strOfNums t217).toList == (strOfNums (([(a4 / 16777216) % 256, (a4 / 65536) % 256, (a4 / 256) % 256, (a4) % 256] : List Int))).toList))) else (none)) else (none)) else (none)) else (none)) else (none))) else (none)) else (none)) else (none))) else (none))) else (none))) else (none)))) else (none))) else (none))) else (none)) else (none)) else (none)) else (none))) = some r := H
      have A12 := Aside0.mk A120
      clear A120
      replace H := Option.bind_eq_some_iff.mp H
      obtain ⟨t176, A130, H⟩ := H
      replace H : (if (strOfNums t163).size + (strOfNums t176).size ≤ 9223372036854775807 then (if (strOfNums t173).toList = ((strOfNums t163) ++ (strOfNums t176)).toList then (if 0 ≤ (t163.length : Int) then (if (t163.length : Int) ≤ (t173.length : Int) then ((some (t173.drop ((t163.length : Int) : Int).toNat : List Int)).bind fun y179 => (if ([] : List Int).length + y179.length < 140737488355328 then ((some (([] : List Int) ++ y179 : List Int)).bind fun y183 => (if y183.length + t166.length < 140737488355328 then ((num_Get.f k (y183 ++ t166)).bind fun bt189 => ((num_PutText.f k (([] : List Int) ++ t163) t169).bind fun t195 => (if (t163.length : Int) ≤ (t195.length : Int) then ((some (t195.drop ((t163.length : Int) : Int).toNat : List Int)).bind fun y198 => (if ([] : List Int).length + y198.length < 140737488355328 then ((some (([] : List Int) ++ y198 : List Int)).bind fun y202 => (if y202.length + t166.length < 140737488355328 then ((num_GetText.f k (y202 ++ t166)).bind fun bt208 => (if bt189.2.2 = 0 then (if bt189.1 = a2 then (if bt189.2.1 = (wrap64 ((t173.length : Int) - (t163.length : Int))) then ((donatusref1_PutText.f k t169).bind fun t214 => (if (strOfNums t163).size + (strOfNums t214).size ≤ 9223372036854775807 then (if (strOfNums t195).toList = ((strOfNums t163) ++ (strOfNums t214)).toList then (if bt208.2.2 = 0 then (if bt208.1.toList = t169.toList then (if bt208.2.1 = (wrap64 ((t195.length : Int) - (t163.length : Int))) then ((num_Four.f a4).bind fun t217 => (some ((strOfNums t217).toList == (strOfNums (([(a4 / 16777216) % 256, (a4 / 65536) % 256, (a4 / 256) % 256, (a4) % 256] : List Int))).toList))) else (none)) else (none)) else (none)) else (none)) else (none))) else (none)) else (none)) else (none))) else (none))) else (none))) else (none)))) else (none))) else (none))) else (none)) else (none)) else (none)) else (none)) = some r := H
      have A13 := Aside0.mk A130
      clear A130
      by_cases c14 : (strOfNums t163).size + (strOfNums t176).size ≤ 9223372036854775807
      · rw [if_pos c14] at H
        have c14b0 := eq_true c14
        have c14b1 : decide ((strOfNums t163).size + (strOfNums t176).size ≤ 9223372036854775807) = true := decide_eq_true c14
        try have c14b2 : (9223372036854775807 < (strOfNums t163).size + (strOfNums t176).size) = False := eq_false (Nat.not_lt.2 c14)
        by_cases c15 : (strOfNums t173).toList = ((strOfNums t163) ++ (strOfNums t176)).toList
        · rw [if_pos c15] at H
          have c15b0 : ((strOfNums t173).toList == ((strOfNums t163) ++ (strOfNums t176)).toList) = true := beq_iff_eq.mpr c15
          have c15b1 : ((strOfNums t173).toList != ((strOfNums t163) ++ (strOfNums t176)).toList) = false := bne_eq_false_iff_eq.mpr c15
          clear c15
          by_cases c16 : 0 ≤ (t163.length : Int)
          · rw [if_pos c16] at H
            have c16b0 := eq_true c16
            have c16b1 : decide (0 ≤ (t163.length : Int)) = true := decide_eq_true c16
            clear c16
            by_cases c17 : (t163.length : Int) ≤ (t173.length : Int)
            · rw [if_pos c17] at H
              have c17b0 := eq_true c17
              have c17b1 : decide ((t163.length : Int) ≤ (t173.length : Int)) = true := decide_eq_true c17
              clear c17
              obtain ⟨y179, hy179⟩ : ∃ y_ : List Int, y_ = (t173.drop ((t163.length : Int) : Int).toNat) := ⟨_, rfl⟩
              replace H : (if ([] : List Int).length + y179.length < 140737488355328 then ((some (([] : List Int) ++ y179 : List Int)).bind fun y183 => (if y183.length + t166.length < 140737488355328 then ((num_Get.f k (y183 ++ t166)).bind fun bt189 => ((num_PutText.f k (([] : List Int) ++ t163) t169).bind fun t195 => (if (t163.length : Int) ≤ (t195.length : Int) then ((some (t195.drop ((t163.length : Int) : Int).toNat : List Int)).bind fun y198 => (if ([] : List Int).length + y198.length < 140737488355328 then ((some (([] : List Int) ++ y198 : List Int)).bind fun y202 => (if y202.length + t166.length < 140737488355328 then ((num_GetText.f k (y202 ++ t166)).bind fun bt208 => (if bt189.2.2 = 0 then (if bt189.1 = a2 then (if bt189.2.1 = (wrap64 ((t173.length : Int) - (t163.length : Int))) then ((donatusref1_PutText.f k t169).bind fun t214 => (if (strOfNums t163).size + (strOfNums t214).size ≤ 9223372036854775807 then (if (strOfNums t195).toList = ((strOfNums t163) ++ (strOfNums t214)).toList then (if bt208.2.2 = 0 then (if bt208.1.toList = t169.toList then (if bt208.2.1 = (wrap64 ((t195.length : Int) - (t163.length : Int))) then ((num_Four.f a4).bind fun t217 => (some ((strOfNums t217).toList == (strOfNums (([(a4 / 16777216) % 256, (a4 / 65536) % 256, (a4 / 256) % 256, (a4) % 256] : List Int))).toList))) else (none)) else (none)) else (none)) else (none)) else (none))) else (none)) else (none)) else (none))) else (none))) else (none))) else (none)))) else (none))) else (none)) = some r := by first | (rw [hy179]; with_reducible exact H) | (have H2_ := (Option.bind_some _ _).symm.trans H; rw [hy179]; with_reducible exact H2_) | (have H2_ := (Option.bind_some _ _).symm.trans H; with_reducible exact H2_) | with_reducible exact H | (rw [hy179]; exact H) | exact H
              have Ny179 := Aside0.mk hy179
              clear hy179
              by_cases c18 : ([] : List Int).length + y179.length < 140737488355328
              · rw [if_pos c18] at H
                have LMc18 := Aside0.mk c18
                clear c18
                obtain ⟨y183, hy183⟩ : ∃ y_ : List Int, y_ = (([] : List Int) ++ y179) := ⟨_, rfl⟩
                replace H : (if y183.length + t166.length < 140737488355328 then ((num_Get.f k (y183 ++ t166)).bind fun bt189 => ((num_PutText.f k (([] : List Int) ++ t163) t169).bind fun t195 => (if (t163.length : Int) ≤ (t195.length : Int) then ((some (t195.drop ((t163.length : Int) : Int).toNat : List Int)).bind fun y198 => (if ([] : List Int).length + y198.length < 140737488355328 then ((some (([] : List Int) ++ y198 : List Int)).bind fun y202 => (if y202.length + t166.length < 140737488355328 then ((num_GetText.f k (y202 ++ t166)).bind fun bt208 => (if bt189.2.2 = 0 then (if bt189.1 = a2 then (if bt189.2.1 = (wrap64 ((t173.length : Int) - (t163.length : Int))) then ((donatusref1_PutText.f k t169).bind fun t214 => (if (strOfNums t163).size + (strOfNums t214).size ≤ 9223372036854775807 then (if (strOfNums t195).toList = ((strOfNums t163) ++ (strOfNums t214)).toList then (if bt208.2.2 = 0 then (if bt208.1.toList = t169.toList then (if bt208.2.1 = (wrap64 ((t195.length : Int) - (t163.length : Int))) then ((num_Four.f a4).bind fun t217 => (some ((strOfNums t217).toList == (strOfNums (([(a4 / 16777216) % 256, (a4 / 65536) % 256, (a4 / 256) % 256, (a4) % 256] : List Int))).toList))) else (none)) else (none)) else (none)) else (none)) else (none))) else (none)) else (none)) else (none))) else (none))) else (none))) else (none)))) else (none)) = some r := by first | (rw [hy183]; with_reducible exact H) | (have H2_ := (Option.bind_some _ _).symm.trans H; rw [hy183]; with_reducible exact H2_) | (have H2_ := (Option.bind_some _ _).symm.trans H; with_reducible exact H2_) | with_reducible exact H | (rw [hy183]; exact H) | exact H
                have Ny183 := Aside0.mk hy183
                clear hy183
                by_cases c19 : y183.length + t166.length < 140737488355328
                · rw [if_pos c19] at H
                  have LMc19 := Aside0.mk c19
                  clear c19
                  obtain ⟨y186, hy186⟩ : ∃ y_ : List Int, y_ = (y183 ++ t166) := ⟨_, rfl⟩
                  replace H : ((num_Get.f k y186).bind fun bt189 => ((num_PutText.f k (([] : List Int) ++ t163) t169).bind fun t195 => (if (t163.length : Int) ≤ (t195.length : Int) then ((some (t195.drop ((t163.length : Int) : Int).toNat : List Int)).bind fun y198 => (if ([] : List Int).length + y198.length < 140737488355328 then ((some (([] : List Int) ++ y198 : List Int)).bind fun y202 => (if y202.length + t166.length < 140737488355328 then ((num_GetText.f k (y202 ++ t166)).bind fun bt208 => (if bt189.2.2 = 0 then (if bt189.1 = a2 then (if bt189.2.1 = (wrap64 ((t173.length : Int) - (t163.length : Int))) then ((donatusref1_PutText.f k t169).bind fun t214 => (if (strOfNums t163).size + (strOfNums t214).size ≤ 9223372036854775807 then (if (strOfNums t195).toList = ((strOfNums t163) ++ (strOfNums t214)).toList then (if bt208.2.2 = 0 then (if bt208.1.toList = t169.toList then (if bt208.2.1 = (wrap64 ((t195.length : Int) - (t163.length : Int))) then ((num_Four.f a4).bind fun t217 => (some ((strOfNums t217).toList == (strOfNums (([(a4 / 16777216) % 256, (a4 / 65536) % 256, (a4 / 256) % 256, (a4) % 256] : List Int))).toList))) else (none)) else (none)) else (none)) else (none)) else (none))) else (none)) else (none)) else (none))) else (none))) else (none))) else (none)))) = some r := by first | (rw [hy186]; with_reducible exact H) | (have H2_ := (Option.bind_some _ _).symm.trans H; rw [hy186]; with_reducible exact H2_) | (have H2_ := (Option.bind_some _ _).symm.trans H; with_reducible exact H2_) | with_reducible exact H | (rw [hy186]; exact H) | exact H
                  have Ny186 := Aside0.mk hy186
                  clear hy186
                  replace H := Option.bind_eq_some_iff.mp H
                  obtain ⟨⟨t189, t190, t191⟩, A200, H⟩ := H
                  replace H : ((num_PutText.f k (([] : List Int) ++ t163) t169).bind fun t195 => (if (t163.length : Int) ≤ (t195.length : Int) then ((some (t195.drop ((t163.length : Int) : Int).toNat : List Int)).bind fun y198 => (if ([] : List Int).length + y198.length < 140737488355328 then ((some (([] : List Int) ++ y198 : List Int)).bind fun y202 => (if y202.length + t166.length < 140737488355328 then ((num_GetText.f k (y202 ++ t166)).bind fun bt208 => (if t191 = 0 then (if t189 = a2 then (if t190 = (wrap64 ((t173.length : Int) - (t163.length : Int))) then ((donatusref1_PutText.f k t169).bind fun t214 => (if (strOfNums t163).size + (strOfNums t214).size ≤ 9223372036854775807 then (if (strOfNums t195).toList = ((strOfNums t163) ++ (strOfNums t214)).toList then (if bt208.2.2 = 0 then (if bt208.1.toList = t169.toList then (if bt208.2.1 = (wrap64 ((t195.length : Int) - (t163.length : Int))) then ((num_Four.f a4).bind fun t217 => (some ((strOfNums t217).toList == (strOfNums (([(a4 / 16777216) % 256, (a4 / 65536) % 256, (a4 / 256) % 256, (a4) % 256] : List Int))).toList))) else (none)) else (none)) else (none)) else (none)) else (none))) else (none)) else (none)) else (none))) else (none))) else (none))) else (none))) = some r := H
                  have A20 := Aside0.mk A200
                  clear A200
                  obtain ⟨y192, hy192⟩ : ∃ y_ : List Int, y_ = (([] : List Int) ++ t163) := ⟨_, rfl⟩
                  replace H : ((num_PutText.f k y192 t169).bind fun t195 => (if (t163.length : Int) ≤ (t195.length : Int) then ((some (t195.drop ((t163.length : Int) : Int).toNat : List Int)).bind fun y198 => (if ([] : List Int).length + y198.length < 140737488355328 then ((some (([] : List Int) ++ y198 : List Int)).bind fun y202 => (if y202.length + t166.length < 140737488355328 then ((num_GetText.f k (y202 ++ t166)).bind fun bt208 => (if t191 = 0 then (if t189 = a2 then (if t190 = (wrap64 ((t173.length : Int) - (t163.length : Int))) then ((donatusref1_PutText.f k t169).bind fun t214 => (if (strOfNums t163).size + (strOfNums t214).size ≤ 9223372036854775807 then (if (strOfNums t195).toList = ((strOfNums t163) ++ (strOfNums t214)).toList then (if bt208.2.2 = 0 then (if bt208.1.toList = t169.toList then (if bt208.2.1 = (wrap64 ((t195.length : Int) - (t163.length : Int))) then ((num_Four.f a4).bind fun t217 => (some ((strOfNums t217).toList == (strOfNums (([(a4 / 16777216) % 256, (a4 / 65536) % 256, (a4 / 256) % 256, (a4) % 256] : List Int))).toList))) else (none)) else (none)) else (none)) else (none)) else (none))) else (none)) else (none)) else (none))) else (none))) else (none))) else (none))) = some r := by first | (rw [hy192]; with_reducible exact H) | (have H2_ := (Option.bind_some _ _).symm.trans H; rw [hy192]; with_reducible exact H2_) | (have H2_ := (Option.bind_some _ _).symm.trans H; with_reducible exact H2_) | with_reducible exact H | (rw [hy192]; exact H) | exact H
                  have Ny192 := Aside0.mk hy192
                  clear hy192
                  replace H := Option.bind_eq_some_iff.mp H
                  obtain ⟨t195, A210, H⟩ := H
                  replace H : (if (t163.length : Int) ≤ (t195.length : Int) then ((some (t195.drop ((t163.length : Int) : Int).toNat : List Int)).bind fun y198 => (if ([] : List Int).length + y198.length < 140737488355328 then ((some (([] : List Int) ++ y198 : List Int)).bind fun y202 => (if y202.length + t166.length < 140737488355328 then ((num_GetText.f k (y202 ++ t166)).bind fun bt208 => (if t191 = 0 then (if t189 = a2 then (if t190 = (wrap64 ((t173.length : Int) - (t163.length : Int))) then ((donatusref1_PutText.f k t169).bind fun t214 => (if (strOfNums t163).size + (strOfNums t214).size ≤ 9223372036854775807 then (if (strOfNums t195).toList = ((strOfNums t163) ++ (strOfNums t214)).toList then (if bt208.2.2 = 0 then (if bt208.1.toList = t169.toList then (if bt208.2.1 = (wrap64 ((t195.length : Int) - (t163.length : Int))) then ((num_Four.f a4).bind fun t217 => (some ((strOfNums t217).toList == (strOfNums (([(a4 / 16777216) % 256, (a4 / 65536) % 256, (a4 / 256) % 256, (a4) % 256] : List Int))).toList))) else (none)) else (none)) else (none)) else (none)) else (none))) else (none)) else (none)) else (none))) else (none))) else (none))) else (none)) = some r := H
                  have A21 := Aside0.mk A210
                  clear A210
                  have c22b0 := eq_true (of_decide_eq_true (by first | (with_reducible assumption) | assumption) : 0 ≤ (t163.length : Int))
                  by_cases c23 : (t163.length : Int) ≤ (t195.length : Int)
                  · rw [if_pos c23] at H
                    have c23b0 := eq_true c23
                    have c23b1 : decide ((t163.length : Int) ≤ (t195.length : Int)) = true := decide_eq_true c23
                    clear c23
                    obtain ⟨y198, hy198⟩ : ∃ y_ : List Int, y_ = (t195.drop ((t163.length : Int) : Int).toNat) := ⟨_, rfl⟩
                    replace H : (if ([] : List Int).length + y198.length < 140737488355328 then ((some (([] : List Int) ++ y198 : List Int)).bind fun y202 => (if y202.length + t166.length < 140737488355328 then ((num_GetText.f k (y202 ++ t166)).bind fun bt208 => (if t191 = 0 then (if t189 = a2 then (if t190 = (wrap64 ((t173.length : Int) - (t163.length : Int))) then ((donatusref1_PutText.f k t169).bind fun t214 => (if (strOfNums t163).size + (strOfNums t214).size ≤ 9223372036854775807 then (if (strOfNums t195).toList = ((strOfNums t163) ++ (strOfNums t214)).toList then (if bt208.2.2 = 0 then (if bt208.1.toList = t169.toList then (if bt208.2.1 = (wrap64 ((t195.length : Int) - (t163.length : Int))) then ((num_Four.f a4).bind fun t217 => (some ((strOfNums t217).toList == (strOfNums (([(a4 / 16777216) % 256, (a4 / 65536) % 256, (a4 / 256) % 256, (a4) % 256] : List Int))).toList))) else (none)) else (none)) else (none)) else (none)) else (none))) else (none)) else (none)) else (none))) else (none))) else (none)) = some r := by first | (rw [hy198]; with_reducible exact H) | (have H2_ := (Option.bind_some _ _).symm.trans H; rw [hy198]; with_reducible exact H2_) | (have H2_ := (Option.bind_some _ _).symm.trans H; with_reducible exact H2_) | with_reducible exact H | (rw [hy198]; exact H) | exact H
                    have Ny198 := Aside0.mk hy198
                    clear hy198
                    by_cases c24 : ([] : List Int).length + y198.length < 140737488355328
                    · rw [if_pos c24] at H
                      have LMc24 := Aside0.mk c24
                      clear c24
                      obtain ⟨y202, hy202⟩ : ∃ y_ : List Int, y_ = (([] : List Int) ++ y198) := ⟨_, rfl⟩
                      replace H : (if y202.length + t166.length < 140737488355328 then ((num_GetText.f k (y202 ++ t166)).bind fun bt208 => (if t191 = 0 then (if t189 = a2 then (if t190 = (wrap64 ((t173.length : Int) - (t163.length : Int))) then ((donatusref1_PutText.f k t169).bind fun t214 => (if (strOfNums t163).size + (strOfNums t214).size ≤ 9223372036854775807 then (if (strOfNums t195).toList = ((strOfNums t163) ++ (strOfNums t214)).toList then (if bt208.2.2 = 0 then (if bt208.1.toList = t169.toList then (if bt208.2.1 = (wrap64 ((t195.length : Int) - (t163.length : Int))) then ((num_Four.f a4).bind fun t217 => (some ((strOfNums t217).toList == (strOfNums (([(a4 / 16777216) % 256, (a4 / 65536) % 256, (a4 / 256) % 256, (a4) % 256] : List Int))).toList))) else (none)) else (none)) else (none)) else (none)) else (none))) else (none)) else (none)) else (none))) else (none)) = some r := by first | (rw [hy202]; with_reducible exact H) | (have H2_ := (Option.bind_some _ _).symm.trans H; rw [hy202]; with_reducible exact H2_) | (have H2_ := (Option.bind_some _ _).symm.trans H; with_reducible exact H2_) | with_reducible exact H | (rw [hy202]; exact H) | exact H
                      have Ny202 := Aside0.mk hy202
                      clear hy202
                      by_cases c25 : y202.length + t166.length < 140737488355328
                      · rw [if_pos c25] at H
                        have LMc25 := Aside0.mk c25
                        clear c25
                        obtain ⟨y205, hy205⟩ : ∃ y_ : List Int, y_ = (y202 ++ t166) := ⟨_, rfl⟩
                        replace H : ((num_GetText.f k y205).bind fun bt208 => (if t191 = 0 then (if t189 = a2 then (if t190 = (wrap64 ((t173.length : Int) - (t163.length : Int))) then ((donatusref1_PutText.f k t169).bind fun t214 => (if (strOfNums t163).size + (strOfNums t214).size ≤ 9223372036854775807 then (if (strOfNums t195).toList = ((strOfNums t163) ++ (strOfNums t214)).toList then (if bt208.2.2 = 0 then (if bt208.1.toList = t169.toList then (if bt208.2.1 = (wrap64 ((t195.length : Int) - (t163.length : Int))) then ((num_Four.f a4).bind fun t217 => (some ((strOfNums t217).toList == (strOfNums (([(a4 / 16777216) % 256, (a4 / 65536) % 256, (a4 / 256) % 256, (a4) % 256] : List Int))).toList))) else (none)) else (none)) else (none)) else (none)) else (none))) else (none)) else (none)) else (none))) = some r := by first | (rw [hy205]; with_reducible exact H) | (have H2_ := (Option.bind_some _ _).symm.trans H; rw [hy205]; with_reducible exact H2_) | (have H2_ := (Option.bind_some _ _).symm.trans H; with_reducible exact H2_) | with_reducible exact H | (rw [hy205]; exact H) | exact H
                        have Ny205 := Aside0.mk hy205
                        clear hy205
                        replace H := Option.bind_eq_some_iff.mp H
                        obtain ⟨⟨t208, t209, t210⟩, A260, H⟩ := H
                        replace H : (if t191 = 0 then (if t189 = a2 then (if t190 = (wrap64 ((t173.length : Int) - (t163.length : Int))) then ((donatusref1_PutText.f k t169).bind fun t214 => (if (strOfNums t163).size + (strOfNums t214).size ≤ 9223372036854775807 then (if (strOfNums t195).toList = ((strOfNums t163) ++ (strOfNums t214)).toList then (if t210 = 0 then (if t208.toList = t169.toList then (if t209 = (wrap64 ((t195.length : Int) - (t163.length : Int))) then ((num_Four.f a4).bind fun t217 => (some ((strOfNums t217).toList == (strOfNums (([(a4 / 16777216) % 256, (a4 / 65536) % 256, (a4 / 256) % 256, (a4) % 256] : List Int))).toList))) else (none)) else (none)) else (none)) else (none)) else (none))) else (none)) else (none)) else (none)) = some r := H
                        have A26 := Aside0.mk A260
                        clear A260
                        obtain ⟨y211, hy211⟩ : ∃ y_ : List Int, y_ = (([(a4 / 16777216) % 256, (a4 / 65536) % 256, (a4 / 256) % 256, (a4) % 256] : List Int)) := ⟨_, rfl⟩
                        replace H : (if t191 = 0 then (if t189 = a2 then (if t190 = (wrap64 ((t173.length : Int) - (t163.length : Int))) then ((donatusref1_PutText.f k t169).bind fun t214 => (if (strOfNums t163).size + (strOfNums t214).size ≤ 9223372036854775807 then (if (strOfNums t195).toList = ((strOfNums t163) ++ (strOfNums t214)).toList then (if t210 = 0 then (if t208.toList = t169.toList then (if t209 = (wrap64 ((t195.length : Int) - (t163.length : Int))) then ((num_Four.f a4).bind fun t217 => (some ((strOfNums t217).toList == (strOfNums y211).toList))) else (none)) else (none)) else (none)) else (none)) else (none))) else (none)) else (none)) else (none)) = some r := by first | (rw [hy211]; with_reducible exact H) | (have H2_ := (Option.bind_some _ _).symm.trans H; rw [hy211]; with_reducible exact H2_) | (have H2_ := (Option.bind_some _ _).symm.trans H; with_reducible exact H2_) | with_reducible exact H | (rw [hy211]; exact H) | exact H
                        have Ny211 := Aside0.mk hy211
                        clear hy211
                        by_cases c27 : t191 = 0
                        · rw [if_pos c27] at H
                          have c27b0 : (t191 == 0) = true := beq_iff_eq.mpr c27
                          have c27b1 : (t191 != 0) = false := bne_eq_false_iff_eq.mpr c27
                          clear c27
                          by_cases c28 : t189 = a2
                          · rw [if_pos c28] at H
                            have c28b0 : (t189 == a2) = true := beq_iff_eq.mpr c28
                            have c28b1 : (t189 != a2) = false := bne_eq_false_iff_eq.mpr c28
                            clear c28
                            by_cases c29 : t190 = (wrap64 ((t173.length : Int) - (t163.length : Int)))
                            · rw [if_pos c29] at H
                              have c29b0 : (t190 == (wrap64 ((t173.length : Int) - (t163.length : Int)))) = true := beq_iff_eq.mpr c29
                              have c29b1 : (t190 != (wrap64 ((t173.length : Int) - (t163.length : Int)))) = false := bne_eq_false_iff_eq.mpr c29
                              clear c29
                              replace H := Option.bind_eq_some_iff.mp H
                              obtain ⟨t214, A300, H⟩ := H
                              replace H : (if (strOfNums t163).size + (strOfNums t214).size ≤ 9223372036854775807 then (if (strOfNums t195).toList = ((strOfNums t163) ++ (strOfNums t214)).toList then (if t210 = 0 then (if t208.toList = t169.toList then (if t209 = (wrap64 ((t195.length : Int) - (t163.length : Int))) then ((num_Four.f a4).bind fun t217 => (some ((strOfNums t217).toList == (strOfNums y211).toList))) else (none)) else (none)) else (none)) else (none)) else (none)) = some r := H
                              have A30 := Aside0.mk A300
                              clear A300
                              by_cases c31 : (strOfNums t163).size + (strOfNums t214).size ≤ 9223372036854775807
                              · rw [if_pos c31] at H
                                have c31b0 := eq_true c31
                                have c31b1 : decide ((strOfNums t163).size + (strOfNums t214).size ≤ 9223372036854775807) = true := decide_eq_true c31
                                try have c31b2 : (9223372036854775807 < (strOfNums t163).size + (strOfNums t214).size) = False := eq_false (Nat.not_lt.2 c31)
                                by_cases c32 : (strOfNums t195).toList = ((strOfNums t163) ++ (strOfNums t214)).toList
                                · rw [if_pos c32] at H
                                  have c32b0 : ((strOfNums t195).toList == ((strOfNums t163) ++ (strOfNums t214)).toList) = true := beq_iff_eq.mpr c32
                                  have c32b1 : ((strOfNums t195).toList != ((strOfNums t163) ++ (strOfNums t214)).toList) = false := bne_eq_false_iff_eq.mpr c32
                                  clear c32
                                  by_cases c33 : t210 = 0
                                  · rw [if_pos c33] at H
                                    have c33b0 : (t210 == 0) = true := beq_iff_eq.mpr c33
                                    have c33b1 : (t210 != 0) = false := bne_eq_false_iff_eq.mpr c33
                                    clear c33
                                    by_cases c34 : t208.toList = t169.toList
                                    · rw [if_pos c34] at H
                                      have c34b0 : (t208.toList == t169.toList) = true := beq_iff_eq.mpr c34
                                      have c34b1 : (t208.toList != t169.toList) = false := bne_eq_false_iff_eq.mpr c34
                                      clear c34
                                      by_cases c35 : t209 = (wrap64 ((t195.length : Int) - (t163.length : Int)))
                                      · rw [if_pos c35] at H
                                        have c35b0 : (t209 == (wrap64 ((t195.length : Int) - (t163.length : Int)))) = true := beq_iff_eq.mpr c35
                                        have c35b1 : (t209 != (wrap64 ((t195.length : Int) - (t163.length : Int)))) = false := bne_eq_false_iff_eq.mpr c35
                                        clear c35
                                        replace H := Option.bind_eq_some_iff.mp H
                                        obtain ⟨t217, A360, H⟩ := H
                                        replace H : (some ((strOfNums t217).toList == (strOfNums y211).toList)) = some r := H
                                        have A36 := Aside0.mk A360
                                        clear A360
                                        obtain rfl := Option.some.inj H
                                        go_enter Try.func3, Try.ntmps3
                                        try go_wp2_with (first | ((with_reducible refine gate_callee (f := 9) rfl ?_); refine goesL_ (some 21) rfl rfl Try.func9 (by kernel_rfl) rfl #[] rfl (by (try simp only [List.map_toArray, List.map_cons, List.map_nil]); first | done | rfl | (simp only [List.length_drop, List.length_take]; rfl)) ?_; (with_reducible refine (donatuslaw1_begun.calls k  true _ A6.out).mono ?_); rintro e w37 ⟨rfl, hb⟩; refine ⟨_, rfl, ?_⟩; have n0_ := Aside0.mk (below_step (by repeat (first | (with_reducible first | exact HB.out | apply below_alloc | apply pw_below_drewN | apply below_drew1) | exact HB.out)) hb); clear HB; have HB := n0_; clear n0_; (try clear hb); (try clear hb2); (try clear hk); (try clear hi)) | ((with_reducible refine gate_callee (f := 10) rfl ?_); refine goesL_ (some 25) rfl rfl Try.func10 (by kernel_rfl) rfl #[.slice A0 l0.length c0, .int .i64 20] rfl (by (try simp only [List.map_toArray, List.map_cons, List.map_nil]); first | done | rfl | (simp only [List.length_drop, List.length_take]; rfl)) ?_; (with_reducible refine (donatuslaw1_Short.calls (fun k_ => k_ < w.heap.size) _ _ l0 20 t163 _ ?side1 A8.out).mono ?_); (case side1 => exact Kd.V_mk HC0.out (Kd.F_below (Kd.C_F (Kd.heap_int .u8) HR0.out) (by repeat (first | (with_reducible first | exact HB.out | apply below_alloc | apply pw_below_drewN | apply below_drew1) | exact HB.out)))); rintro e w38 ⟨v164, rfl, ho0, hb⟩; refine ⟨_, rfl, ?_⟩; have n0_ := Aside0.mk (Kd.V_lower (Kd.V_mono (ok' := fun k_ => True) ho0 (fun k_ hk_ => trivial)) (below_size (by repeat (first | (with_reducible first | exact HB.out | apply below_alloc | apply pw_below_drewN | apply below_drew1) | exact HB.out)))); have n1_ := Aside0.mk (below_step (by repeat (first | (with_reducible first | exact HB.out | apply below_alloc | apply pw_below_drewN | apply below_drew1) | exact HB.out)) hb); clear HB; have HO165 := n0_; have HB := n1_; clear n0_ n1_; (try clear hb); (try clear hb2); (try clear hk); (try clear hi); (try clear ho0)) | ((with_reducible refine gate_callee (f := 10) rfl ?_); refine goesL_ (some 27) rfl rfl Try.func10 (by kernel_rfl) rfl #[.slice A1 l1.length c1, .int .i64 20] rfl (by (try simp only [List.map_toArray, List.map_cons, List.map_nil]); first | done | rfl | (simp only [List.length_drop, List.length_take]; rfl)) ?_; (with_reducible refine (donatuslaw1_Short.calls (fun k_ => k_ < w.heap.size) _ _ l1 20 t166 _ ?side1 A9.out).mono ?_); (case side1 => exact Kd.V_mk HC1.out (Kd.F_below (Kd.C_F (Kd.heap_int .u8) HR1.out) (by repeat (first | (with_reducible first | exact HB.out | apply below_alloc | apply pw_below_drewN | apply below_drew1) | exact HB.out)))); rintro e w39 ⟨v167, rfl, ho0, hb⟩; refine ⟨_, rfl, ?_⟩; have n0_ := Aside0.mk (Kd.V_below (by (with_reducible repeat (first | apply Kd.V_alloc | apply Kd.V_drewN | apply Kd.V_drew)); exact HO165.out) hb); have n1_ := Aside0.mk (Kd.V_lower (Kd.V_mono (ok' := fun k_ => True) ho0 (fun k_ hk_ => trivial)) (below_size (by repeat (first | (with_reducible first | exact HB.out | apply below_alloc | apply pw_below_drewN | apply below_drew1) | exact HB.out)))); have n2_ := Aside0.mk (below_step (by repeat (first | (with_reducible first | exact HB.out | apply below_alloc | apply pw_below_drewN | apply below_drew1) | exact HB.out)) hb); clear HO165; clear HB; have HO165 := n0_; have HO168 := n1_; have HB := n2_; clear n0_ n1_ n2_; (try clear hb); (try clear hb2); (try clear hk); (try clear hi); (try clear ho0)) | ((with_reducible refine gate_callee (f := 11) rfl ?_); refine goesL_ (some 29) rfl rfl Try.func11 (by kernel_rfl) rfl #[.string a3, .int .i64 100] rfl (by (try simp only [List.map_toArray, List.map_cons, List.map_nil]); first | done | rfl | (simp only [List.length_drop, List.length_take]; rfl)) ?_; (with_reducible refine (donatuslaw1_Cut.calls a3 100 t169 _ A10.out).mono ?_); rintro e w' ⟨rfl, ⟨nd, rfl⟩⟩; refine ⟨_, rfl, ?_⟩; obtain ⟨Ao41, co41, eo41⟩ := Kd.V_slice HO165.out; subst eo41) | ((with_reducible refine gate_builtin (b := .append) (xs := #[.const (.slice none 0 0), .tmp 30]) rfl ?_); (try (refine gate_guard (by rfl) ?_; dsimp only)); at_builtin; refine Kd.R_append_rows (Kd.int .u8) (w0 := w) w.heap.size rfl (.const (.slice none 0 0)) (.tmp 30) 22 5 (.int .u8 0) 1 rfl Try.underlying22 info5 rfl (by decide) (by omega) (.slice none 0 0) ([] : List Int) t163 _ _ _ (fun _ => True) (fun _ => False) rfl rfl ?aO ?aR (fun _ _ h => h) (fun _ h => h.elim) ?aF ?aB ?aS ?aL ?_; (case aR => repeat (first | exact (Kd.V_reads' HO165.out).2.2 | (with_reducible refine Kd.C_alloc ?_ _) | (with_reducible refine Kd.C_drewN ?_ _) | (with_reducible refine Kd.C_drew ?_))); (case aB => exact (by repeat (first | (with_reducible first | exact HB.out | apply below_alloc | apply pw_below_drewN | apply below_drew1) | exact HB.out))); (case aF => exact (fun _ _ => trivial)); (case aO => exact ((Kd.R_nil _ _ _ _ (fun _ => True)))); (case aS => exact (below_size (by repeat (first | (with_reducible first | exact HB.out | apply below_alloc | apply pw_below_drewN | apply below_drew1) | exact HB.out)))); (case aL => have := LMc11.out; omega); intro v171 w40 ho hb hg hat; rw [← Ny170.out] at ho; have n0_ := Aside0.mk (Kd.V_afterv (Kd.V_apart_nil (by (with_reducible repeat (first | apply Kd.V_alloc | apply Kd.V_drewN | apply Kd.V_drew)); exact HO165.out)) hg hat); have n1_ := Aside0.mk (Kd.V_afterv (Kd.V_apart_nil (by (with_reducible repeat (first | apply Kd.V_alloc | apply Kd.V_drewN | apply Kd.V_drew)); exact HO168.out)) hg hat); have n2_ := Aside0.mk (hb); have n3_ := Aside0.mk (ho); clear HO165; clear HO168; clear HB; have HO165 := n0_; have HO168 := n1_; have HB := n2_; have HO172 := n3_; clear n0_ n1_ n2_ n3_; clear ho hb hg hat; obtain ⟨Ao42, co42, eo42⟩ := Kd.R_slice HO172.out; subst eo42) | ((with_reducible refine gate_callee (f := 12) rfl ?_); refine goesL_ (some 33) rfl rfl Try.func12 (by kernel_rfl) rfl #[.slice Ao42 y170.length co42, .int .i64 a2] rfl (by (try simp only [List.map_toArray, List.map_cons, List.map_nil]); first | done | rfl | (simp only [List.length_drop, List.length_take]; rfl)) ?_; (with_reducible refine (num_Put.calls k (fun k_ => some k_ = (.slice Ao42 y170.length co42 : Value).ownBlock) (.slice Ao42 y170.length co42) y170 a2 t173 w _ ?side1 ?side2 A12.out).mono ?_); (case side1 => repeat (first | (with_reducible first | exact HB.out | apply below_alloc | apply pw_below_drewN | apply below_drew1) | exact HB.out)); (case side2 => exact Kd.R_tight rfl HO172.out); rintro e w43 ⟨v174, rfl, ho0, hb, hkp⟩; refine ⟨_, rfl, ?_⟩; have n0_ := Aside0.mk (Kd.V_mono (ok' := fun k_ => some k_ ≠ (v174 : Value).ownBlock) (Kd.V_keptB (HO165.out) hkp (fun k_ hk_ hs_ => (hk_.2) hs_)) (fun k_ hk_ => fun e_ => Or.elim (ho0.1 k_ e_.symm) (fun hs_ => hk_.2.1 hs_) (fun hn_ => Nat.not_le.2 hk_.2.2 hn_))); have n1_ := Aside0.mk (Kd.V_mono (ok' := fun k_ => some k_ ≠ (v174 : Value).ownBlock) (Kd.V_keptB (HO168.out) hkp (fun k_ hk_ hs_ => (hk_.2) hs_)) (fun k_ hk_ => fun e_ => Or.elim (ho0.1 k_ e_.symm) (fun hs_ => hk_.2.1 hs_) (fun hn_ => Nat.not_le.2 hk_.2.2 hn_))); have n2_ := Aside0.mk (Kd.R_mono (ok' := fun k_ => True) ho0 (fun k_ hk_ => trivial)); have n3_ := Aside0.mk (hb); clear HO165; clear HO168; clear HB; clear HO172; have HO165 := n0_; have HO168 := n1_; have HO175 := n2_; have HB := n3_; clear n0_ n1_ n2_ n3_; (try clear hb); (try clear hkp); (try clear ho0)))
                                        have n0_ := Aside0.mk (Kd.V_drew HO165.out)
                                        have n1_ := Aside0.mk (Kd.V_drew HO168.out)
                                        have n2_ := Aside0.mk (Kd.R_drew HO175.out)
                                        have n3_ := Aside0.mk (below_drew1 HB.out)
                                        clear HO165
                                        clear HO168
                                        clear HO175
                                        clear HB
                                        have HO165 := n0_
                                        have HO168 := n1_
                                        have HO175 := n2_
                                        have HB := n3_
                                        clear n0_ n1_ n2_ n3_
                                        refine start_ (n := 9) (S := fun w' => (convert 22 9 v174).run Try.prog w' = .ok (.string (strOfNums t173)) w' ∧ (∀ k_, k_ = t163.length → (convert 22 9 (.slice Ao41 k_ co41)).run Try.prog w' = .ok (.string (strOfNums t163)) w')) (ds := []) #[false, false, false, false, false, false, false, false, false] (by kernel_rfl) rfl rfl ⟨(Kd.R_string Try.underlying22 Try.underlying5 Try.underlying9 (by (with_reducible repeat (first | apply Kd.R_alloc | apply Kd.R_drewN | apply Kd.R_drew)); exact HO175.out)), (Kd.V_string_as Try.underlying22 Try.underlying5 Try.underlying9 (by (with_reducible repeat (first | apply Kd.V_alloc | apply Kd.V_drewN | apply Kd.V_drew)); exact HO165.out))⟩ (fun hHeld => ?_); refine with_tabW donatuslaw1_NumBack.tab6 donatuslaw1_NumBack.bits6 (fun HT_ HW_ => ?_)
                                        generalize w43.drew = w44 at HO165 HO168 HO175 HB hHeld ⊢
                                        refine pure_ (i := 0) (N := some 34) (v := ?_) (a' := ?_) #[true, false, false, false, false, false, false, false, false] rfl rfl (any_of HT_.out (by kernel_rfl)) (fun _ _ _ h => h) (Or.inl ⟨by rfl, ?_⟩) ?_ ?_
                                        rotate_left
                                        · intro w'
                                          go_simp
                                          with_reducible rfl
                                        rotate_left
                                        · simp only [Act.put, List.setIfInBounds_toArray, List.set_cons_zero, List.set_cons_succ, i64_w, i32_w]
                                          rfl
                                        refine pure_ (i := 2) (N := some 36) (v := ?_) (a' := ?_) #[true, false, true, false, false, false, false, false, false] rfl rfl (any_of HT_.out (by kernel_rfl)) (fun _ _ _ h => h) (Or.inl ⟨by rfl, ?_⟩) ?_ ?_
                                        rotate_left
                                        · intro w'
                                          go_simp
                                          with_reducible rfl
                                        rotate_left
                                        · simp only [Act.put, List.setIfInBounds_toArray, List.set_cons_zero, List.set_cons_succ, i64_w, i32_w]
                                          rfl
                                        refine pure_ (i := 4) (N := some 38) (v := ?_) (a' := ?_) #[true, false, true, false, true, false, false, false, false] rfl rfl (any_of HT_.out (by kernel_rfl)) (fun _ _ _ h => h) (Or.inl ⟨by rfl, ?_⟩) ?_ ?_
                                        rotate_left
                                        · intro w'
                                          go_simp
                                          with_reducible rfl
                                        rotate_left
                                        · simp only [Act.put, List.setIfInBounds_toArray, List.set_cons_zero, List.set_cons_succ, i64_w, i32_w]
                                          rfl
                                        refine take_ (i := 1) (N := some 35) (v := ?_) (a' := ?_) #[true, true, true, false, true, false, false, false, false] rfl rfl (take_ofW HT_.out HW_.out (by kernel_rfl)) (fun _ _ _ h => h) (Or.inl ⟨by rfl, ?_⟩) hHeld ?_ ?_
                                        rotate_left
                                        · rintro w' ⟨s0, s1⟩
                                          go_simp
                                          with_reducible rfl
                                        rotate_left
                                        · simp only [Act.put, List.setIfInBounds_toArray, List.set_cons_zero, List.set_cons_succ, i64_w, i32_w]
                                          rfl
                                        refine take_ (i := 3) (N := some 37) (v := ?_) (a' := ?_) #[true, true, true, true, true, false, false, false, false] rfl rfl (take_ofW HT_.out HW_.out (by kernel_rfl)) (fun _ _ _ h => h) (Or.inl ⟨by rfl, ?_⟩) hHeld ?_ ?_
                                        rotate_left
                                        · rintro w' ⟨s0, s1⟩
                                          go_simp
                                          with_reducible rfl
                                        rotate_left
                                        · simp only [Act.put, List.setIfInBounds_toArray, List.set_cons_zero, List.set_cons_succ, i64_w, i32_w]
                                          rfl
                                        refine one_ (i := 5) (N := some 39) #[true, true, true, true, true, true, false, false, false] rfl rfl (one_of HT_.out (by kernel_rfl)) (by decide) (fun K hK => ?_)
                                        refine goes_ Try.func13 (by kernel_rfl) rfl #[.int .i64 a2] (by rfl) rfl rfl (by (try simp only [List.map_toArray, List.map_cons, List.map_nil]); first | done | rfl | (simp only [List.length_drop, List.length_take]; rfl)) ?_
                                        with_reducible refine (donatusref1_Put.calls k a2 t176 _ A13.out).mono ?_
                                        rintro e w47 ⟨v177, rfl, ho0, hb⟩
                                        refine ⟨_, rfl, ?_⟩
                                        have n0_ := Aside0.mk (Kd.V_elder' (by (with_reducible repeat (first | apply Kd.V_alloc | apply Kd.V_drewN | apply Kd.V_drew)); exact HO165.out) (Kd.R_base ho0) hb)
                                        have n1_ := Aside0.mk (Kd.V_elder' (by (with_reducible repeat (first | apply Kd.V_alloc | apply Kd.V_drewN | apply Kd.V_drew)); exact HO168.out) (Kd.R_base ho0) hb)
                                        have n2_ := Aside0.mk (Kd.R_elder' (by (with_reducible repeat (first | apply Kd.R_alloc | apply Kd.R_drewN | apply Kd.R_drew)); exact HO175.out) (Kd.R_base ho0) hb)
                                        have n3_ := Aside0.mk (Kd.R_lower (Kd.R_new' ho0 (Kd.R_lt (by (with_reducible repeat (first | apply Kd.R_alloc | apply Kd.R_drewN | apply Kd.R_drew)); exact HO175.out))) (below_size (by repeat (first | (with_reducible first | exact HB.out | apply below_alloc | apply pw_below_drewN | apply below_drew1) | exact HB.out))))
                                        have n4_ := Aside0.mk (below_step (by repeat (first | (with_reducible first | exact HB.out | apply below_alloc | apply pw_below_drewN | apply below_drew1) | exact HB.out)) hb)
                                        clear HO165
                                        clear HO168
                                        clear HO175
                                        clear HB
                                        have HO165 := n0_
                                        have HO168 := n1_
                                        have HO175 := n2_
                                        have HO178 := n3_
                                        have HB := n4_
                                        clear n0_ n1_ n2_ n3_ n4_
                                        (try clear hb)
                                        (try clear hb2)
                                        (try clear hk)
                                        (try clear hi)
                                        (try clear ho0)
                                        refine hK.out _ _ ⟨(Kd.R_string Try.underlying22 Try.underlying5 Try.underlying9 (by (with_reducible repeat (first | apply Kd.R_alloc | apply Kd.R_drewN | apply Kd.R_drew)); exact HO175.out)), (Kd.V_string_as Try.underlying22 Try.underlying5 Try.underlying9 (by (with_reducible repeat (first | apply Kd.V_alloc | apply Kd.V_drewN | apply Kd.V_drew)); exact HO165.out))⟩ (fun hHeld => ?_)
                                        clear hK K
                                        refine norm_ (a' := ?_) ?_ ?_
                                        rotate_left
                                        · show Act.put _ (some 39) _ = _
                                          simp only [Act.put, List.setIfInBounds_toArray, List.set_cons_zero, List.set_cons_succ, i64_w, i32_w]
                                          rfl
                                        refine one_ (i := 6) (N := some 40) #[true, true, true, true, true, true, true, false, false] rfl rfl (one_of HT_.out (by kernel_rfl)) (by decide) (fun K hK => ?_)
                                        have hcv48 := own_string (P := Try.prog) Try.underlying22 Try.underlying5 Try.underlying9 (Kd.own_of_R HO178.out)
                                        refine value_ (w1 := ?_) (v := ?_) (by rfl) rfl ?_ ?_
                                        rotate_left 2
                                        · go_simp
                                          constructor
                                          · rfl
                                          · rfl
                                        clear hcv48
                                        refine hK.out _ _ ⟨(Kd.R_string Try.underlying22 Try.underlying5 Try.underlying9 (by (with_reducible repeat (first | apply Kd.R_alloc | apply Kd.R_drewN | apply Kd.R_drew)); exact HO175.out)), (Kd.V_string_as Try.underlying22 Try.underlying5 Try.underlying9 (by (with_reducible repeat (first | apply Kd.V_alloc | apply Kd.V_drewN | apply Kd.V_drew)); exact HO165.out))⟩ (fun hHeld => ?_)
                                        clear hK K
                                        refine norm_ (a' := ?_) ?_ ?_
                                        rotate_left
                                        · show Act.put _ (some 40) _ = _
                                          simp only [Act.put, List.setIfInBounds_toArray, List.set_cons_zero, List.set_cons_succ, i64_w, i32_w]
                                          rfl
                                        refine pure_ (i := 7) (N := some 41) (v := ?_) (a' := ?_) #[true, true, true, true, true, true, true, true, false] rfl rfl (any_of HT_.out (by kernel_rfl)) (fun _ _ _ h => h) (Or.inl ⟨by rfl, ?_⟩) ?_ ?_
                                        rotate_left
                                        · intro w'
                                          go_simp
                                          with_reducible rfl
                                        rotate_left
                                        · simp only [Act.put, List.setIfInBounds_toArray, List.set_cons_zero, List.set_cons_succ, i64_w, i32_w]
                                          rfl
                                        refine pure_ (i := 8) (N := some 42) (v := ?_) (a' := ?_) #[true, true, true, true, true, true, true, true, true] rfl rfl (any_of HT_.out (by kernel_rfl)) (fun _ _ _ h => h) (Or.inl ⟨by rfl, ?_⟩) ?_ ?_
                                        rotate_left
                                        · intro w'
                                          go_simp
                                          with_reducible rfl
                                        rotate_left
                                        · simp only [Act.put, List.setIfInBounds_toArray, List.set_cons_zero, List.set_cons_succ, i64_w, i32_w]
                                          rfl
                                        refine done_ (done_of HT_.out (by kernel_rfl)) ?_
                                        obtain ⟨Ao50, co50, eo50⟩ := Kd.R_slice HO175.out
                                        subst eo50
                                        have q49 : ((t163.length : Int) : Int) ≤ ((t173.length : Int) : Int) := of_decide_eq_true (by first | (with_reducible assumption) | assumption)
                                        obtain ⟨i049, hi049, _, hsz49, _⟩ := info_parts info5
                                        have hroom49 : t173.length ≤ co50 := (Kd.R_reads' HO175.out).2.1
                                        have hC49 : Kd.C (Kd.int .u8) _ Ao50 t173.length t173 := (Kd.R_reads' HO175.out).2.2
                                        have q049 : (0 : Int) ≤ ((t163.length : Int) : Int) := of_decide_eq_true (by first | (with_reducible assumption) | assumption)
                                        have hcut49 := cut_from (P := Try.prog) 22 5 .i64 Try.underlying22 hi049 1 hsz49 Ao50 t173.length co50 (t163.length : Int) q049 q49
                                        have hr49 := Kd.C_drop (m := ((t163.length : Int) : Int).toNat) (c := co50) hC49 (by omega) hroom49
                                        obtain ⟨A49, hA49⟩ : ∃ A1, A1 = (if co50 = ((t163.length : Int) : Int).toNat then Ao50 else (Ao50 : Option Addr).map (·.add (((t163.length : Int) : Int).toNat * 1))) := ⟨_, rfl⟩
                                        obtain ⟨c49, hc49⟩ : ∃ c1, c1 = co50 - ((t163.length : Int) : Int).toNat := ⟨_, rfl⟩
                                        have hy49 : y179.length = t173.length - ((t163.length : Int) : Int).toNat := (by rw [Ny179.out, List.length_drop] <;> omega)
                                        rw [show (t173).drop ((t163.length : Int) : Int).toNat = y179 from Ny179.out.symm] at hr49
                                        replace hr49 : Kd.C (Kd.int .u8) _ A49 y179.length y179 := (by rw [hA49]; exact hr49)
                                        rw [← hy49, ← hA49, ← hc49] at hcut49
                                        have HR182 := Aside0.mk hr49
                                        have HC182 := Aside0.mk (show y179.length ≤ c49 from by rw [hy49, hc49]; exact Nat.sub_le_sub_right hroom49 _)
                                        clear hr49 hC49 hroom49 hi049 hsz49 hc49
                                        have KY49 := Aside0.mk hy49
                                        have KA49 := Aside0.mk hA49
                                        clear hy49 hA49
                                        have KL49 := Aside0.mk (show ((t163.length : Int) : Int).toNat ≤ t173.length from by omega)
                                        replace q49 := eq_true q49
                                        try go_wp2_with (first | ((with_reducible refine gate_builtin (b := .append) (xs := #[.const (.slice none 0 0), .tmp 47]) rfl ?_); (try (refine gate_guard (by rfl) ?_; dsimp only)); at_builtin; refine Kd.R_append_rows (Kd.int .u8) (w0 := w) w.heap.size rfl (.const (.slice none 0 0)) (.tmp 47) 22 5 (.int .u8 0) 1 rfl Try.underlying22 info5 rfl (by decide) (by omega) (.slice none 0 0) ([] : List Int) y179 _ _ _ (fun k_ => some k_ ≠ (.slice Ao50 t173.length co50 : Value).ownBlock ∧ some k_ ≠ (v177 : Value).ownBlock) (fun _ => False) rfl rfl ?aO ?aR (fun _ _ h => h) (fun _ h => h.elim) ?aF ?aB ?aS ?aL ?_; (case aR => repeat (first | exact (by repeat (first | (with_reducible exact HR182.out) | (with_reducible refine Kd.C_alloc ?_ _) | (with_reducible refine Kd.C_drewN ?_ _) | (with_reducible refine Kd.C_drew ?_) | exact HR182.out)) | (with_reducible refine Kd.C_alloc ?_ _) | (with_reducible refine Kd.C_drewN ?_ _) | (with_reducible refine Kd.C_drew ?_))); (case aB => exact (by repeat (first | (with_reducible first | exact HB.out | apply below_alloc | apply pw_below_drewN | apply below_drew1) | exact HB.out))); (case aF => exact (fun k_ hk => ⟨Kd.fresh' (Kd.R_lt (by (with_reducible repeat (first | apply Kd.R_alloc | apply Kd.R_drewN | apply Kd.R_drew)); exact HO175.out)) k_ hk, Kd.fresh' (Kd.R_lt (by (with_reducible repeat (first | apply Kd.R_alloc | apply Kd.R_drewN | apply Kd.R_drew)); exact HO178.out)) k_ hk⟩)); (case aO => exact ((Kd.R_nil _ _ _ _ (fun k_ => some k_ ≠ (.slice Ao50 t173.length co50 : Value).ownBlock ∧ some k_ ≠ (v177 : Value).ownBlock)))); (case aS => exact (below_size (by repeat (first | (with_reducible first | exact HB.out | apply below_alloc | apply pw_below_drewN | apply below_drew1) | exact HB.out)))); (case aL => have := LMc18.out; omega); intro v184 w51 ho hb hg hat; rw [← Ny183.out] at ho; have n0_ := Aside0.mk (Kd.V_afterv (Kd.V_apart_nil (by (with_reducible repeat (first | apply Kd.V_alloc | apply Kd.V_drewN | apply Kd.V_drew)); exact HO165.out)) hg hat); have n1_ := Aside0.mk (Kd.V_afterv (Kd.V_apart_nil (by (with_reducible repeat (first | apply Kd.V_alloc | apply Kd.V_drewN | apply Kd.V_drew)); exact HO168.out)) hg hat); have n2_ := Aside0.mk (Kd.R_after (Kd.R_apart_nil (by (with_reducible repeat (first | apply Kd.R_alloc | apply Kd.R_drewN | apply Kd.R_drew)); exact HO175.out)) hg hat); have n3_ := Aside0.mk (Kd.R_after (Kd.R_apart_nil (by (with_reducible repeat (first | apply Kd.R_alloc | apply Kd.R_drewN | apply Kd.R_drew)); exact HO178.out)) hg hat); have n4_ := Aside0.mk (hb); have n5_ := Aside0.mk ((show Kd.C (Kd.int .u8) w51 A49 y179.length y179 from by rw [Ny179.out, KA49.out]; exact Kd.C_drop (m := ((t163.length : Int) : Int).toNat) (c := co50) ((Kd.R_reads' (Kd.R_after (Kd.R_apart_nil (by (with_reducible repeat (first | apply Kd.R_alloc | apply Kd.R_drewN | apply Kd.R_drew)); exact HO175.out)) hg hat)).2.2) KL49.out ((Kd.R_reads' (Kd.R_after (Kd.R_apart_nil (by (with_reducible repeat (first | apply Kd.R_alloc | apply Kd.R_drewN | apply Kd.R_drew)); exact HO175.out)) hg hat)).2.1))); have n6_ := Aside0.mk (ho); clear HO165; clear HO168; clear HO175; clear HO178; clear HB; clear HR182; have HO165 := n0_; have HO168 := n1_; have HO175 := n2_; have HO178 := n3_; have HB := n4_; have HR182 := n5_; have HO185 := n6_; clear n0_ n1_ n2_ n3_ n4_ n5_ n6_; clear ho hb hg hat; obtain ⟨Ao53, co53, eo53⟩ := Kd.V_slice HO168.out; subst eo53) | ((with_reducible refine gate_builtin (b := .append) (xs := #[.tmp 48, .tmp 49]) rfl ?_); (try (refine gate_guard (by rfl) ?_; dsimp only)); at_builtin; refine Kd.R_append_rows (Kd.int .u8) (w0 := w) w.heap.size rfl (.tmp 48) (.tmp 49) 22 5 (.int .u8 0) 1 rfl Try.underlying22 info5 rfl (by decide) (by omega) v184 y183 t166 _ _ _ (fun k_ => some k_ ≠ (.slice Ao50 t173.length co50 : Value).ownBlock ∧ some k_ ≠ (v177 : Value).ownBlock) (fun _ => False) rfl rfl ?aO ?aR (fun _ _ h => h) (fun _ h => h.elim) ?aF ?aB ?aS ?aL ?_; (case aR => repeat (first | exact (Kd.V_reads' HO168.out).2.2 | (with_reducible refine Kd.C_alloc ?_ _) | (with_reducible refine Kd.C_drewN ?_ _) | (with_reducible refine Kd.C_drew ?_))); (case aB => exact (by repeat (first | (with_reducible first | exact HB.out | apply below_alloc | apply pw_below_drewN | apply below_drew1) | exact HB.out))); (case aF => exact (fun k_ hk => ⟨Kd.fresh' (Kd.R_lt (by (with_reducible repeat (first | apply Kd.R_alloc | apply Kd.R_drewN | apply Kd.R_drew)); exact HO175.out)) k_ hk, Kd.fresh' (Kd.R_lt (by (with_reducible repeat (first | apply Kd.R_alloc | apply Kd.R_drewN | apply Kd.R_drew)); exact HO178.out)) k_ hk⟩)); (case aO => exact (by (with_reducible repeat (first | apply Kd.R_alloc | apply Kd.R_drewN | apply Kd.R_drew)); exact HO185.out)); (case aS => exact (below_size (by repeat (first | (with_reducible first | exact HB.out | apply below_alloc | apply pw_below_drewN | apply below_drew1) | exact HB.out)))); (case aL => have := LMc19.out; omega); intro v187 w52 ho hb hg hat; rw [← Ny186.out] at ho; have n0_ := Aside0.mk (Kd.V_afterv (ok := (fun k_ => some k_ ≠ (.slice Ao50 t173.length co50 : Value).ownBlock ∧ some k_ ≠ (v177 : Value).ownBlock)) (by (with_reducible repeat (first | apply Kd.V_alloc | apply Kd.V_drewN | apply Kd.V_drew)); exact HO165.out) hg hat); have n1_ := Aside0.mk (Kd.V_afterv (ok := (fun k_ => some k_ ≠ (.slice Ao50 t173.length co50 : Value).ownBlock ∧ some k_ ≠ (v177 : Value).ownBlock)) (by (with_reducible repeat (first | apply Kd.V_alloc | apply Kd.V_drewN | apply Kd.V_drew)); exact HO168.out) hg hat); have n2_ := Aside0.mk (Kd.R_after (ok := (fun k_ => some k_ ≠ (v177 : Value).ownBlock)) (by (with_reducible repeat (first | apply Kd.R_alloc | apply Kd.R_drewN | apply Kd.R_drew)); exact Kd.R_mono HO175.out (fun _ hk => ⟨hk.1.2, hk.2⟩)) hg hat); have n3_ := Aside0.mk (Kd.R_after (ok := (fun k_ => some k_ ≠ (.slice Ao50 t173.length co50 : Value).ownBlock)) (by (with_reducible repeat (first | apply Kd.R_alloc | apply Kd.R_drewN | apply Kd.R_drew)); exact Kd.R_mono HO178.out (fun _ hk => ⟨hk.1.2, hk.2⟩)) hg hat); have n4_ := Aside0.mk (hb); have n5_ := Aside0.mk ((show Kd.C (Kd.int .u8) w52 A49 y179.length y179 from by rw [Ny179.out, KA49.out]; exact Kd.C_drop (m := ((t163.length : Int) : Int).toNat) (c := co50) ((Kd.R_reads' (Kd.R_after (ok := (fun k_ => some k_ ≠ (v177 : Value).ownBlock)) (by (with_reducible repeat (first | apply Kd.R_alloc | apply Kd.R_drewN | apply Kd.R_drew)); exact Kd.R_mono HO175.out (fun _ hk => ⟨hk.1.2, hk.2⟩)) hg hat)).2.2) KL49.out ((Kd.R_reads' (Kd.R_after (ok := (fun k_ => some k_ ≠ (v177 : Value).ownBlock)) (by (with_reducible repeat (first | apply Kd.R_alloc | apply Kd.R_drewN | apply Kd.R_drew)); exact Kd.R_mono HO175.out (fun _ hk => ⟨hk.1.2, hk.2⟩)) hg hat)).2.1))); have n6_ := Aside0.mk (ho); clear HO165; clear HO168; clear HO175; clear HO178; clear HB; clear HR182; clear HO185; have HO165 := n0_; have HO168 := n1_; have HO175 := n2_; have HO178 := n3_; have HB := n4_; have HR182 := n5_; have HO188 := n6_; clear n0_ n1_ n2_ n3_ n4_ n5_ n6_; clear ho hb hg hat; obtain ⟨Ao54, co54, eo54⟩ := Kd.R_slice HO188.out; subst eo54) | ((with_reducible refine gate_callee (f := 14) rfl ?_); refine goesL_ (some 51) rfl rfl Try.func14 (by kernel_rfl) rfl #[.slice Ao54 y186.length co54] rfl (by (try simp only [List.map_toArray, List.map_cons, List.map_nil]); first | done | rfl | (simp only [List.length_drop, List.length_take]; rfl)) ?_; (with_reducible refine (num_Get.calls k _ _ y186 t189 t190 t191 _ ?side1 ?side2 A20.out).mono ?_); (case side1 => repeat (first | exact (Kd.R_reads' HO188.out).2.2 | (with_reducible refine Kd.C_alloc ?_ _) | (with_reducible refine Kd.C_drewN ?_ _) | (with_reducible refine Kd.C_drew ?_))); (case side2 => exact (Kd.R_reads' HO188.out).2.1); rintro e w' ⟨rfl, ⟨nd, rfl⟩⟩; refine ⟨_, rfl, ?_⟩) | ((with_reducible refine gate_builtin (b := .append) (xs := #[.const (.slice none 0 0), .tmp 55]) rfl ?_); (try (refine gate_guard (by rfl) ?_; dsimp only)); at_builtin; refine Kd.R_append_rows (Kd.int .u8) (w0 := w) w.heap.size rfl (.const (.slice none 0 0)) (.tmp 55) 22 5 (.int .u8 0) 1 rfl Try.underlying22 info5 rfl (by decide) (by omega) (.slice none 0 0) ([] : List Int) t163 _ _ _ (fun k_ => some k_ ≠ (.slice Ao50 t173.length co50 : Value).ownBlock ∧ some k_ ≠ (v177 : Value).ownBlock ∧ some k_ ≠ (.slice Ao54 y186.length co54 : Value).ownBlock) (fun _ => False) rfl rfl ?aO ?aR (fun _ _ h => h) (fun _ h => h.elim) ?aF ?aB ?aS ?aL ?_; (case aR => repeat (first | exact (Kd.V_reads' HO165.out).2.2 | (with_reducible refine Kd.C_alloc ?_ _) | (with_reducible refine Kd.C_drewN ?_ _) | (with_reducible refine Kd.C_drew ?_))); (case aB => exact (by repeat (first | (with_reducible first | exact HB.out | apply below_alloc | apply pw_below_drewN | apply below_drew1) | exact HB.out))); (case aF => exact (fun k_ hk => ⟨Kd.fresh' (Kd.R_lt (by (with_reducible repeat (first | apply Kd.R_alloc | apply Kd.R_drewN | apply Kd.R_drew)); exact HO175.out)) k_ hk, Kd.fresh' (Kd.R_lt (by (with_reducible repeat (first | apply Kd.R_alloc | apply Kd.R_drewN | apply Kd.R_drew)); exact HO178.out)) k_ hk, Kd.fresh' (Kd.R_lt (by (with_reducible repeat (first | apply Kd.R_alloc | apply Kd.R_drewN | apply Kd.R_drew)); exact HO188.out)) k_ hk⟩)); (case aO => exact ((Kd.R_nil _ _ _ _ (fun k_ => some k_ ≠ (.slice Ao50 t173.length co50 : Value).ownBlock ∧ some k_ ≠ (v177 : Value).ownBlock ∧ some k_ ≠ (.slice Ao54 y186.length co54 : Value).ownBlock)))); (case aS => exact (below_size (by repeat (first | (with_reducible first | exact HB.out | apply below_alloc | apply pw_below_drewN | apply below_drew1) | exact HB.out)))); (case aL => have := LMc11.out; omega); intro v193 w55 ho hb hg hat; rw [← Ny192.out] at ho; have n0_ := Aside0.mk (Kd.V_afterv (Kd.V_apart_nil (by (with_reducible repeat (first | apply Kd.V_alloc | apply Kd.V_drewN | apply Kd.V_drew)); exact HO165.out)) hg hat); have n1_ := Aside0.mk (Kd.V_afterv (Kd.V_apart_nil (by (with_reducible repeat (first | apply Kd.V_alloc | apply Kd.V_drewN | apply Kd.V_drew)); exact HO168.out)) hg hat); have n2_ := Aside0.mk (Kd.R_after (Kd.R_apart_nil (by (with_reducible repeat (first | apply Kd.R_alloc | apply Kd.R_drewN | apply Kd.R_drew)); exact HO175.out)) hg hat); have n3_ := Aside0.mk (Kd.R_after (Kd.R_apart_nil (by (with_reducible repeat (first | apply Kd.R_alloc | apply Kd.R_drewN | apply Kd.R_drew)); exact HO178.out)) hg hat); have n4_ := Aside0.mk (Kd.R_after (Kd.R_apart_nil (by (with_reducible repeat (first | apply Kd.R_alloc | apply Kd.R_drewN | apply Kd.R_drew)); exact HO188.out)) hg hat); have n5_ := Aside0.mk (hb); have n6_ := Aside0.mk ((show Kd.C (Kd.int .u8) w55 A49 y179.length y179 from by rw [Ny179.out, KA49.out]; exact Kd.C_drop (m := ((t163.length : Int) : Int).toNat) (c := co50) ((Kd.R_reads' (Kd.R_after (Kd.R_apart_nil (by (with_reducible repeat (first | apply Kd.R_alloc | apply Kd.R_drewN | apply Kd.R_drew)); exact HO175.out)) hg hat)).2.2) KL49.out ((Kd.R_reads' (Kd.R_after (Kd.R_apart_nil (by (with_reducible repeat (first | apply Kd.R_alloc | apply Kd.R_drewN | apply Kd.R_drew)); exact HO175.out)) hg hat)).2.1))); have n7_ := Aside0.mk (ho); clear HO165; clear HO168; clear HO175; clear HO178; clear HO188; clear HB; clear HR182; have HO165 := n0_; have HO168 := n1_; have HO175 := n2_; have HO178 := n3_; have HO188 := n4_; have HB := n5_; have HR182 := n6_; have HO194 := n7_; clear n0_ n1_ n2_ n3_ n4_ n5_ n6_ n7_; clear ho hb hg hat; obtain ⟨Ao56, co56, eo56⟩ := Kd.R_slice HO194.out; subst eo56) | ((with_reducible refine gate_callee (f := 15) rfl ?_); refine goesL_ (some 58) rfl rfl Try.func15 (by kernel_rfl) rfl #[.slice Ao56 y192.length co56, .string t169] rfl (by (try simp only [List.map_toArray, List.map_cons, List.map_nil]); first | done | rfl | (simp only [List.length_drop, List.length_take]; rfl)) ?_; (with_reducible refine (num_PutText.calls k (fun k_ => some k_ = (.slice Ao56 y192.length co56 : Value).ownBlock) (.slice Ao56 y192.length co56) y192 t169 t195 w _ ?side1 ?side2 A21.out).mono ?_); (case side1 => repeat (first | (with_reducible first | exact HB.out | apply below_alloc | apply pw_below_drewN | apply below_drew1) | exact HB.out)); (case side2 => exact Kd.R_tight rfl HO194.out); rintro e w57 ⟨v196, rfl, ho0, hb, hkp⟩; refine ⟨_, rfl, ?_⟩; have n0_ := Aside0.mk (Kd.V_mono (ok' := fun k_ => some k_ ≠ (.slice Ao50 t173.length co50 : Value).ownBlock ∧ some k_ ≠ (v177 : Value).ownBlock ∧ some k_ ≠ (.slice Ao54 y186.length co54 : Value).ownBlock ∧ some k_ ≠ (v196 : Value).ownBlock) (Kd.V_keptB (HO165.out) hkp (fun k_ hk_ hs_ => (hk_.2) hs_)) (fun k_ hk_ => ⟨hk_.1.1.1.1, hk_.1.1.1.2, hk_.1.1.2, fun e_ => Or.elim (ho0.1 k_ e_.symm) (fun hs_ => hk_.2.1 hs_) (fun hn_ => Nat.not_le.2 hk_.2.2 hn_)⟩)); have n1_ := Aside0.mk (Kd.V_mono (ok' := fun k_ => some k_ ≠ (.slice Ao50 t173.length co50 : Value).ownBlock ∧ some k_ ≠ (v177 : Value).ownBlock ∧ some k_ ≠ (.slice Ao54 y186.length co54 : Value).ownBlock ∧ some k_ ≠ (v196 : Value).ownBlock) (Kd.V_keptB (HO168.out) hkp (fun k_ hk_ hs_ => (hk_.2) hs_)) (fun k_ hk_ => ⟨hk_.1.1.1.1, hk_.1.1.1.2, hk_.1.1.2, fun e_ => Or.elim (ho0.1 k_ e_.symm) (fun hs_ => hk_.2.1 hs_) (fun hn_ => Nat.not_le.2 hk_.2.2 hn_)⟩)); have n2_ := Aside0.mk (Kd.R_mono (ok' := fun k_ => some k_ ≠ (v177 : Value).ownBlock ∧ some k_ ≠ (.slice Ao54 y186.length co54 : Value).ownBlock ∧ some k_ ≠ (v196 : Value).ownBlock) (Kd.R_keptB (HO175.out) hkp (fun k_ hk_ hs_ => (hk_.2) hs_)) (fun k_ hk_ => ⟨hk_.1.1.1, hk_.1.1.2, fun e_ => Or.elim (ho0.1 k_ e_.symm) (fun hs_ => hk_.2.1 hs_) (fun hn_ => Nat.not_le.2 hk_.2.2 hn_)⟩)); have n3_ := Aside0.mk (Kd.R_mono (ok' := fun k_ => some k_ ≠ (.slice Ao50 t173.length co50 : Value).ownBlock ∧ some k_ ≠ (.slice Ao54 y186.length co54 : Value).ownBlock ∧ some k_ ≠ (v196 : Value).ownBlock) (Kd.R_keptB (HO178.out) hkp (fun k_ hk_ hs_ => (hk_.2) hs_)) (fun k_ hk_ => ⟨hk_.1.1.1, hk_.1.1.2, fun e_ => Or.elim (ho0.1 k_ e_.symm) (fun hs_ => hk_.2.1 hs_) (fun hn_ => Nat.not_le.2 hk_.2.2 hn_)⟩)); have n4_ := Aside0.mk (Kd.R_mono (ok' := fun k_ => some k_ ≠ (.slice Ao50 t173.length co50 : Value).ownBlock ∧ some k_ ≠ (v177 : Value).ownBlock ∧ some k_ ≠ (v196 : Value).ownBlock) (Kd.R_keptB (HO188.out) hkp (fun k_ hk_ hs_ => (hk_.2) hs_)) (fun k_ hk_ => ⟨hk_.1.1.1, hk_.1.1.2, fun e_ => Or.elim (ho0.1 k_ e_.symm) (fun hs_ => hk_.2.1 hs_) (fun hn_ => Nat.not_le.2 hk_.2.2 hn_)⟩)); have n5_ := Aside0.mk (Kd.R_mono (ok' := fun k_ => some k_ ≠ (.slice Ao50 t173.length co50 : Value).ownBlock ∧ some k_ ≠ (v177 : Value).ownBlock ∧ some k_ ≠ (.slice Ao54 y186.length co54 : Value).ownBlock) ho0 (fun k_ hk_ => ⟨Or.elim hk_ (fun hs_ => fun e_ => (((HO175.out).1 k_ e_.symm).2) hs_) (fun hn_ => (Kd.fresh' (Kd.R_lt (by (with_reducible repeat (first | apply Kd.R_alloc | apply Kd.R_drewN | apply Kd.R_drew)); exact HO175.out)) k_ hn_)), Or.elim hk_ (fun hs_ => fun e_ => (((HO178.out).1 k_ e_.symm).2) hs_) (fun hn_ => (Kd.fresh' (Kd.R_lt (by (with_reducible repeat (first | apply Kd.R_alloc | apply Kd.R_drewN | apply Kd.R_drew)); exact HO178.out)) k_ hn_)), Or.elim hk_ (fun hs_ => fun e_ => (((HO188.out).1 k_ e_.symm).2) hs_) (fun hn_ => (Kd.fresh' (Kd.R_lt (by (with_reducible repeat (first | apply Kd.R_alloc | apply Kd.R_drewN | apply Kd.R_drew)); exact HO188.out)) k_ hn_))⟩)); have n6_ := Aside0.mk (hb); clear HO165; clear HO168; clear HO175; clear HO178; clear HO188; clear HB; clear HO194; have HO165 := n0_; have HO168 := n1_; have HO175 := n2_; have HO178 := n3_; have HO188 := n4_; have HO197 := n5_; have HB := n6_; clear n0_ n1_ n2_ n3_ n4_ n5_ n6_; (try clear hb); (try clear hkp); (try clear ho0); obtain ⟨Ao59, co59, eo59⟩ := Kd.R_slice HO197.out; subst eo59; have q58 : ((t163.length : Int) : Int) ≤ ((t195.length : Int) : Int) := of_decide_eq_true (by first | (with_reducible assumption) | assumption); obtain ⟨i058, hi058, _, hsz58, _⟩ := info_parts info5; have hroom58 : t195.length ≤ co59 := (Kd.R_reads' HO197.out).2.1; have hC58 : Kd.C (Kd.int .u8) _ Ao59 t195.length t195 := (Kd.R_reads' HO197.out).2.2; have q058 : (0 : Int) ≤ ((t163.length : Int) : Int) := of_decide_eq_true (by first | (with_reducible assumption) | assumption); have hcut58 := cut_from (P := Try.prog) 22 5 .i64 Try.underlying22 hi058 1 hsz58 Ao59 t195.length co59 (t163.length : Int) q058 q58; have hr58 := Kd.C_drop (m := ((t163.length : Int) : Int).toNat) (c := co59) hC58 (by omega) hroom58; obtain ⟨A58, hA58⟩ : ∃ A1, A1 = (if co59 = ((t163.length : Int) : Int).toNat then Ao59 else (Ao59 : Option Addr).map (·.add (((t163.length : Int) : Int).toNat * 1))) := ⟨_, rfl⟩; obtain ⟨c58, hc58⟩ : ∃ c1, c1 = co59 - ((t163.length : Int) : Int).toNat := ⟨_, rfl⟩; have hy58 : y198.length = t195.length - ((t163.length : Int) : Int).toNat := (by rw [Ny198.out, List.length_drop] <;> omega); rw [show (t195).drop ((t163.length : Int) : Int).toNat = y198 from Ny198.out.symm] at hr58; replace hr58 : Kd.C (Kd.int .u8) _ A58 y198.length y198 := (by rw [hA58]; exact hr58); rw [← hy58, ← hA58, ← hc58] at hcut58; have HR201 := Aside0.mk hr58; have HC201 := Aside0.mk (show y198.length ≤ c58 from by rw [hy58, hc58]; exact Nat.sub_le_sub_right hroom58 _); clear hr58 hC58 hroom58 hi058 hsz58 hc58; have KY58 := Aside0.mk hy58; have KA58 := Aside0.mk hA58; clear hy58 hA58; have KL58 := Aside0.mk (show ((t163.length : Int) : Int).toNat ≤ t195.length from by omega); replace q58 := eq_true q58) | ((with_reducible refine gate_builtin (b := .append) (xs := #[.const (.slice none 0 0), .tmp 63]) rfl ?_); (try (refine gate_guard (by rfl) ?_; dsimp only)); at_builtin; refine Kd.R_append_rows (Kd.int .u8) (w0 := w) w.heap.size rfl (.const (.slice none 0 0)) (.tmp 63) 22 5 (.int .u8 0) 1 rfl Try.underlying22 info5 rfl (by decide) (by omega) (.slice none 0 0) ([] : List Int) y198 _ _ _ (fun k_ => some k_ ≠ (.slice Ao50 t173.length co50 : Value).ownBlock ∧ some k_ ≠ (v177 : Value).ownBlock ∧ some k_ ≠ (.slice Ao54 y186.length co54 : Value).ownBlock ∧ some k_ ≠ (.slice Ao59 t195.length co59 : Value).ownBlock) (fun _ => False) rfl rfl ?aO ?aR (fun _ _ h => h) (fun _ h => h.elim) ?aF ?aB ?aS ?aL ?_; (case aR => repeat (first | exact (by repeat (first | (with_reducible exact HR201.out) | (with_reducible refine Kd.C_alloc ?_ _) | (with_reducible refine Kd.C_drewN ?_ _) | (with_reducible refine Kd.C_drew ?_) | exact HR201.out)) | (with_reducible refine Kd.C_alloc ?_ _) | (with_reducible refine Kd.C_drewN ?_ _) | (with_reducible refine Kd.C_drew ?_))); (case aB => exact (by repeat (first | (with_reducible first | exact HB.out | apply below_alloc | apply pw_below_drewN | apply below_drew1) | exact HB.out))); (case aF => exact (fun k_ hk => ⟨Kd.fresh' (Kd.R_lt (by (with_reducible repeat (first | apply Kd.R_alloc | apply Kd.R_drewN | apply Kd.R_drew)); exact HO175.out)) k_ hk, Kd.fresh' (Kd.R_lt (by (with_reducible repeat (first | apply Kd.R_alloc | apply Kd.R_drewN | apply Kd.R_drew)); exact HO178.out)) k_ hk, Kd.fresh' (Kd.R_lt (by (with_reducible repeat (first | apply Kd.R_alloc | apply Kd.R_drewN | apply Kd.R_drew)); exact HO188.out)) k_ hk, Kd.fresh' (Kd.R_lt (by (with_reducible repeat (first | apply Kd.R_alloc | apply Kd.R_drewN | apply Kd.R_drew)); exact HO197.out)) k_ hk⟩)); (case aO => exact ((Kd.R_nil _ _ _ _ (fun k_ => some k_ ≠ (.slice Ao50 t173.length co50 : Value).ownBlock ∧ some k_ ≠ (v177 : Value).ownBlock ∧ some k_ ≠ (.slice Ao54 y186.length co54 : Value).ownBlock ∧ some k_ ≠ (.slice Ao59 t195.length co59 : Value).ownBlock)))); (case aS => exact (below_size (by repeat (first | (with_reducible first | exact HB.out | apply below_alloc | apply pw_below_drewN | apply below_drew1) | exact HB.out)))); (case aL => have := LMc24.out; omega); intro v203 w60 ho hb hg hat; rw [← Ny202.out] at ho; have n0_ := Aside0.mk (Kd.V_afterv (Kd.V_apart_nil (by (with_reducible repeat (first | apply Kd.V_alloc | apply Kd.V_drewN | apply Kd.V_drew)); exact HO165.out)) hg hat); have n1_ := Aside0.mk (Kd.V_afterv (Kd.V_apart_nil (by (with_reducible repeat (first | apply Kd.V_alloc | apply Kd.V_drewN | apply Kd.V_drew)); exact HO168.out)) hg hat); have n2_ := Aside0.mk (Kd.R_after (Kd.R_apart_nil (by (with_reducible repeat (first | apply Kd.R_alloc | apply Kd.R_drewN | apply Kd.R_drew)); exact HO175.out)) hg hat); have n3_ := Aside0.mk (Kd.R_after (Kd.R_apart_nil (by (with_reducible repeat (first | apply Kd.R_alloc | apply Kd.R_drewN | apply Kd.R_drew)); exact HO178.out)) hg hat); have n4_ := Aside0.mk (Kd.R_after (Kd.R_apart_nil (by (with_reducible repeat (first | apply Kd.R_alloc | apply Kd.R_drewN | apply Kd.R_drew)); exact HO188.out)) hg hat); have n5_ := Aside0.mk (Kd.R_after (Kd.R_apart_nil (by (with_reducible repeat (first | apply Kd.R_alloc | apply Kd.R_drewN | apply Kd.R_drew)); exact HO197.out)) hg hat); have n6_ := Aside0.mk (hb); have n7_ := Aside0.mk ((show Kd.C (Kd.int .u8) w60 A58 y198.length y198 from by rw [Ny198.out, KA58.out]; exact Kd.C_drop (m := ((t163.length : Int) : Int).toNat) (c := co59) ((Kd.R_reads' (Kd.R_after (Kd.R_apart_nil (by (with_reducible repeat (first | apply Kd.R_alloc | apply Kd.R_drewN | apply Kd.R_drew)); exact HO197.out)) hg hat)).2.2) KL58.out ((Kd.R_reads' (Kd.R_after (Kd.R_apart_nil (by (with_reducible repeat (first | apply Kd.R_alloc | apply Kd.R_drewN | apply Kd.R_drew)); exact HO197.out)) hg hat)).2.1))); have n8_ := Aside0.mk (ho); clear HO165; clear HO168; clear HO175; clear HO178; clear HO188; clear HO197; clear HB; clear HR201; have HO165 := n0_; have HO168 := n1_; have HO175 := n2_; have HO178 := n3_; have HO188 := n4_; have HO197 := n5_; have HB := n6_; have HR201 := n7_; have HO204 := n8_; clear n0_ n1_ n2_ n3_ n4_ n5_ n6_ n7_ n8_; clear ho hb hg hat) | ((with_reducible refine gate_builtin (b := .append) (xs := #[.tmp 64, .tmp 65]) rfl ?_); (try (refine gate_guard (by rfl) ?_; dsimp only)); at_builtin; refine Kd.R_append_rows (Kd.int .u8) (w0 := w) w.heap.size rfl (.tmp 64) (.tmp 65) 22 5 (.int .u8 0) 1 rfl Try.underlying22 info5 rfl (by decide) (by omega) v203 y202 t166 _ _ _ (fun k_ => some k_ ≠ (.slice Ao50 t173.length co50 : Value).ownBlock ∧ some k_ ≠ (v177 : Value).ownBlock ∧ some k_ ≠ (.slice Ao54 y186.length co54 : Value).ownBlock ∧ some k_ ≠ (.slice Ao59 t195.length co59 : Value).ownBlock) (fun _ => False) rfl rfl ?aO ?aR (fun _ _ h => h) (fun _ h => h.elim) ?aF ?aB ?aS ?aL ?_; (case aR => repeat (first | exact (Kd.V_reads' HO168.out).2.2 | (with_reducible refine Kd.C_alloc ?_ _) | (with_reducible refine Kd.C_drewN ?_ _) | (with_reducible refine Kd.C_drew ?_))); (case aB => exact (by repeat (first | (with_reducible first | exact HB.out | apply below_alloc | apply pw_below_drewN | apply below_drew1) | exact HB.out))); (case aF => exact (fun k_ hk => ⟨Kd.fresh' (Kd.R_lt (by (with_reducible repeat (first | apply Kd.R_alloc | apply Kd.R_drewN | apply Kd.R_drew)); exact HO175.out)) k_ hk, Kd.fresh' (Kd.R_lt (by (with_reducible repeat (first | apply Kd.R_alloc | apply Kd.R_drewN | apply Kd.R_drew)); exact HO178.out)) k_ hk, Kd.fresh' (Kd.R_lt (by (with_reducible repeat (first | apply Kd.R_alloc | apply Kd.R_drewN | apply Kd.R_drew)); exact HO188.out)) k_ hk, Kd.fresh' (Kd.R_lt (by (with_reducible repeat (first | apply Kd.R_alloc | apply Kd.R_drewN | apply Kd.R_drew)); exact HO197.out)) k_ hk⟩)); (case aO => exact (by (with_reducible repeat (first | apply Kd.R_alloc | apply Kd.R_drewN | apply Kd.R_drew)); exact HO204.out)); (case aS => exact (below_size (by repeat (first | (with_reducible first | exact HB.out | apply below_alloc | apply pw_below_drewN | apply below_drew1) | exact HB.out)))); (case aL => have := LMc25.out; omega); intro v206 w61 ho hb hg hat; rw [← Ny205.out] at ho; have n0_ := Aside0.mk (Kd.V_afterv (ok := (fun k_ => some k_ ≠ (.slice Ao50 t173.length co50 : Value).ownBlock ∧ some k_ ≠ (v177 : Value).ownBlock ∧ some k_ ≠ (.slice Ao54 y186.length co54 : Value).ownBlock ∧ some k_ ≠ (.slice Ao59 t195.length co59 : Value).ownBlock)) (by (with_reducible repeat (first | apply Kd.V_alloc | apply Kd.V_drewN | apply Kd.V_drew)); exact HO165.out) hg hat); have n1_ := Aside0.mk (Kd.V_afterv (ok := (fun k_ => some k_ ≠ (.slice Ao50 t173.length co50 : Value).ownBlock ∧ some k_ ≠ (v177 : Value).ownBlock ∧ some k_ ≠ (.slice Ao54 y186.length co54 : Value).ownBlock ∧ some k_ ≠ (.slice Ao59 t195.length co59 : Value).ownBlock)) (by (with_reducible repeat (first | apply Kd.V_alloc | apply Kd.V_drewN | apply Kd.V_drew)); exact HO168.out) hg hat); have n2_ := Aside0.mk (Kd.R_after (ok := (fun k_ => some k_ ≠ (v177 : Value).ownBlock ∧ some k_ ≠ (.slice Ao54 y186.length co54 : Value).ownBlock ∧ some k_ ≠ (.slice Ao59 t195.length co59 : Value).ownBlock)) (by (with_reducible repeat (first | apply Kd.R_alloc | apply Kd.R_drewN | apply Kd.R_drew)); exact HO175.out) hg hat); have n3_ := Aside0.mk (Kd.R_after (ok := (fun k_ => some k_ ≠ (.slice Ao50 t173.length co50 : Value).ownBlock ∧ some k_ ≠ (.slice Ao54 y186.length co54 : Value).ownBlock ∧ some k_ ≠ (.slice Ao59 t195.length co59 : Value).ownBlock)) (by (with_reducible repeat (first | apply Kd.R_alloc | apply Kd.R_drewN | apply Kd.R_drew)); exact HO178.out) hg hat); have n4_ := Aside0.mk (Kd.R_after (ok := (fun k_ => some k_ ≠ (.slice Ao50 t173.length co50 : Value).ownBlock ∧ some k_ ≠ (v177 : Value).ownBlock ∧ some k_ ≠ (.slice Ao59 t195.length co59 : Value).ownBlock)) (by (with_reducible repeat (first | apply Kd.R_alloc | apply Kd.R_drewN | apply Kd.R_drew)); exact HO188.out) hg hat); have n5_ := Aside0.mk (Kd.R_after (ok := (fun k_ => some k_ ≠ (.slice Ao50 t173.length co50 : Value).ownBlock ∧ some k_ ≠ (v177 : Value).ownBlock ∧ some k_ ≠ (.slice Ao54 y186.length co54 : Value).ownBlock)) (by (with_reducible repeat (first | apply Kd.R_alloc | apply Kd.R_drewN | apply Kd.R_drew)); exact HO197.out) hg hat); have n6_ := Aside0.mk (hb); have n7_ := Aside0.mk ((show Kd.C (Kd.int .u8) w61 A58 y198.length y198 from by rw [Ny198.out, KA58.out]; exact Kd.C_drop (m := ((t163.length : Int) : Int).toNat) (c := co59) ((Kd.R_reads' (Kd.R_after (ok := (fun k_ => some k_ ≠ (.slice Ao50 t173.length co50 : Value).ownBlock ∧ some k_ ≠ (v177 : Value).ownBlock ∧ some k_ ≠ (.slice Ao54 y186.length co54 : Value).ownBlock)) (by (with_reducible repeat (first | apply Kd.R_alloc | apply Kd.R_drewN | apply Kd.R_drew)); exact HO197.out) hg hat)).2.2) KL58.out ((Kd.R_reads' (Kd.R_after (ok := (fun k_ => some k_ ≠ (.slice Ao50 t173.length co50 : Value).ownBlock ∧ some k_ ≠ (v177 : Value).ownBlock ∧ some k_ ≠ (.slice Ao54 y186.length co54 : Value).ownBlock)) (by (with_reducible repeat (first | apply Kd.R_alloc | apply Kd.R_drewN | apply Kd.R_drew)); exact HO197.out) hg hat)).2.1))); have n8_ := Aside0.mk (ho); clear HO165; clear HO168; clear HO175; clear HO178; clear HO188; clear HO197; clear HB; clear HR201; clear HO204; have HO165 := n0_; have HO168 := n1_; have HO175 := n2_; have HO178 := n3_; have HO188 := n4_; have HO197 := n5_; have HB := n6_; have HR201 := n7_; have HO207 := n8_; clear n0_ n1_ n2_ n3_ n4_ n5_ n6_ n7_ n8_; clear ho hb hg hat; obtain ⟨Ao62, co62, eo62⟩ := Kd.R_slice HO207.out; subst eo62) | ((with_reducible refine gate_callee (f := 16) rfl ?_); refine goesL_ (some 67) rfl rfl Try.func16 (by kernel_rfl) rfl #[.slice Ao62 y205.length co62] rfl (by (try simp only [List.map_toArray, List.map_cons, List.map_nil]); first | done | rfl | (simp only [List.length_drop, List.length_take]; rfl)) ?_; (with_reducible refine (num_GetText.calls k _ _ y205 t208 t209 t210 _ ?side1 ?side2 A26.out).mono ?_); (case side1 => repeat (first | exact (Kd.R_reads' HO207.out).2.2 | (with_reducible refine Kd.C_alloc ?_ _) | (with_reducible refine Kd.C_drewN ?_ _) | (with_reducible refine Kd.C_drew ?_))); (case side2 => exact (Kd.R_reads' HO207.out).2.1); rintro e w' ⟨rfl, ⟨nd, rfl⟩⟩; refine ⟨_, rfl, ?_⟩) | ((with_reducible refine gate_dst (N := 82) rfl ?_); (try (refine gate_guard (by rfl) ?_; dsimp only)); refine Kd.R_lit (Kd.int .u8) _ 5 ?hg (N := 82) ?hd (xs := ([(a4 / 16777216) % 256, (a4 / 65536) % 256, (a4 / 256) % 256, (a4) % 256] : List Int)) (inner := [.int .u8 ((a4 / 16777216) % 256), .int .u8 ((a4 / 65536) % 256), .int .u8 ((a4 / 256) % 256), .int .u8 ((a4) % 256)]) (ok := fun _ => True) (okp := fun _ => True) ?hr ?hp (fun _ hk => hk) trivial (Below.refl _ _) (Nat.le_refl _) (by simp) ?_; (case hd => rfl); (case hg => rfl); (case hr => first | (go_simp; done) | (go_simp; rfl)); (case hp => exact (Reps.one (show Kd.M (Kd.int .u8) _ _ _ ((a4 / 16777216) % 256) [.int .u8 ((a4 / 16777216) % 256)] from rfl) (Reps.one (show Kd.M (Kd.int .u8) _ _ _ ((a4 / 65536) % 256) [.int .u8 ((a4 / 65536) % 256)] from rfl) (Reps.one (show Kd.M (Kd.int .u8) _ _ _ ((a4 / 256) % 256) [.int .u8 ((a4 / 256) % 256)] from rfl) (Reps.one (show Kd.M (Kd.int .u8) _ _ _ ((a4) % 256) [.int .u8 ((a4) % 256)] from rfl) (Reps.none _ _)))))); intro v212 w63 ho64 hb hg_ hnew_; clear hg_ hnew_; (first | rw [← Ny211.out] at ho64 | (simp only [Int.reduceToNat] at ho64; rw [← Ny211.out] at ho64)); have n0_ := Aside0.mk (Kd.V_elder' (by (with_reducible repeat (first | apply Kd.V_alloc | apply Kd.V_drewN | apply Kd.V_drew)); exact HO165.out) (Kd.R_base ho64) hb); have n1_ := Aside0.mk (Kd.V_elder' (by (with_reducible repeat (first | apply Kd.V_alloc | apply Kd.V_drewN | apply Kd.V_drew)); exact HO168.out) (Kd.R_base ho64) hb); have n2_ := Aside0.mk (Kd.R_elder' (by (with_reducible repeat (first | apply Kd.R_alloc | apply Kd.R_drewN | apply Kd.R_drew)); exact HO175.out) (Kd.R_base ho64) hb); have n3_ := Aside0.mk (Kd.R_elder' (by (with_reducible repeat (first | apply Kd.R_alloc | apply Kd.R_drewN | apply Kd.R_drew)); exact HO178.out) (Kd.R_base ho64) hb); have n4_ := Aside0.mk (Kd.R_elder' (by (with_reducible repeat (first | apply Kd.R_alloc | apply Kd.R_drewN | apply Kd.R_drew)); exact HO188.out) (Kd.R_base ho64) hb); have n5_ := Aside0.mk (Kd.R_elder' (by (with_reducible repeat (first | apply Kd.R_alloc | apply Kd.R_drewN | apply Kd.R_drew)); exact HO197.out) (Kd.R_base ho64) hb); have n6_ := Aside0.mk (Kd.R_elder' (by (with_reducible repeat (first | apply Kd.R_alloc | apply Kd.R_drewN | apply Kd.R_drew)); exact HO207.out) (Kd.R_base ho64) hb); have n7_ := Aside0.mk (Kd.R_lower (Kd.R_new' (Kd.R_new' (Kd.R_new' (Kd.R_new' (Kd.R_new' ho64 (Kd.R_lt (by (with_reducible repeat (first | apply Kd.R_alloc | apply Kd.R_drewN | apply Kd.R_drew)); exact HO175.out))) (Kd.R_lt (by (with_reducible repeat (first | apply Kd.R_alloc | apply Kd.R_drewN | apply Kd.R_drew)); exact HO178.out))) (Kd.R_lt (by (with_reducible repeat (first | apply Kd.R_alloc | apply Kd.R_drewN | apply Kd.R_drew)); exact HO188.out))) (Kd.R_lt (by (with_reducible repeat (first | apply Kd.R_alloc | apply Kd.R_drewN | apply Kd.R_drew)); exact HO197.out))) (Kd.R_lt (by (with_reducible repeat (first | apply Kd.R_alloc | apply Kd.R_drewN | apply Kd.R_drew)); exact HO207.out))) (below_size (by repeat (first | (with_reducible first | exact HB.out | apply below_alloc | apply pw_below_drewN | apply below_drew1) | exact HB.out)))); have n8_ := Aside0.mk (Kd.C_below (by repeat (first | (with_reducible exact HR201.out) | (with_reducible refine Kd.C_alloc ?_ _) | (with_reducible refine Kd.C_drewN ?_ _) | (with_reducible refine Kd.C_drew ?_) | exact HR201.out)) hb); have n9_ := Aside0.mk (below_step (by repeat (first | (with_reducible first | exact HB.out | apply below_alloc | apply pw_below_drewN | apply below_drew1) | exact HB.out)) hb); clear HO165; clear HO168; clear HO175; clear HO178; clear HO188; clear HO197; clear HO207; clear HR201; clear HB; have HO165 := n0_; have HO168 := n1_; have HO175 := n2_; have HO178 := n3_; have HO188 := n4_; have HO197 := n5_; have HO207 := n6_; have HO213 := n7_; have HR201 := n8_; have HB := n9_; clear n0_ n1_ n2_ n3_ n4_ n5_ n6_ n7_ n8_ n9_; clear hb ho64; have hcv65 := own_string (P := Try.prog) Try.underlying22 Try.underlying5 Try.underlying9 (Kd.own_of_R HO213.out)))
                                        have n0_ := Aside0.mk (Kd.V_drew HO165.out)
                                        have n1_ := Aside0.mk (Kd.V_drew HO168.out)
                                        have n2_ := Aside0.mk (Kd.R_drew HO175.out)
                                        have n3_ := Aside0.mk (Kd.R_drew HO178.out)
                                        have n4_ := Aside0.mk (Kd.R_drew HO188.out)
                                        have n5_ := Aside0.mk (Kd.R_drew HO197.out)
                                        have n6_ := Aside0.mk (Kd.R_drew HO207.out)
                                        have n7_ := Aside0.mk (Kd.R_drew HO213.out)
                                        have n8_ := Aside0.mk (Kd.C_drew HR201.out)
                                        have n9_ := Aside0.mk (below_drew1 HB.out)
                                        clear HO165
                                        clear HO168
                                        clear HO175
                                        clear HO178
                                        clear HO188
                                        clear HO197
                                        clear HO207
                                        clear HO213
                                        clear HR201
                                        clear HB
                                        have HO165 := n0_
                                        have HO168 := n1_
                                        have HO175 := n2_
                                        have HO178 := n3_
                                        have HO188 := n4_
                                        have HO197 := n5_
                                        have HO207 := n6_
                                        have HO213 := n7_
                                        have HR201 := n8_
                                        have HB := n9_
                                        clear n0_ n1_ n2_ n3_ n4_ n5_ n6_ n7_ n8_ n9_
                                        refine start_ (n := 53) (S := fun w' => (∀ k_, k_ = t195.length → (convert 22 9 (.slice Ao59 k_ co59)).run Try.prog w' = .ok (.string (strOfNums t195)) w') ∧ (∀ k_, k_ = t163.length → (convert 22 9 (.slice Ao41 k_ co41)).run Try.prog w' = .ok (.string (strOfNums t163)) w')) (ds := []) #[false, false, false, false, false, false, false, false, false, false, false, false, false, false, false, false, false, false, false, false, false, false, false, false, false, false, false, false, false, false, false, false, false, false, false, false, false, false, false, false, false, false, false, false, false, false, false, false, false, false, false, false, false] (by kernel_rfl) rfl rfl ⟨(Kd.R_string_as Try.underlying22 Try.underlying5 Try.underlying9 (by (with_reducible repeat (first | apply Kd.R_alloc | apply Kd.R_drewN | apply Kd.R_drew)); exact HO197.out)), (Kd.V_string_as Try.underlying22 Try.underlying5 Try.underlying9 (by (with_reducible repeat (first | apply Kd.V_alloc | apply Kd.V_drewN | apply Kd.V_drew)); exact HO165.out))⟩ (fun hHeld => ?_); refine with_tabW donatuslaw1_NumBack.tab12 donatuslaw1_NumBack.bits12 (fun HT_ HW_ => ?_)
                                        generalize w63.drew = w66 at HO165 HO168 HO175 HO178 HO188 HO197 HO207 HO213 HR201 HB hHeld ⊢
                                        refine pure_ (i := 0) (N := some 84) (v := ?_) (a' := ?_) #[true, false, false, false, false, false, false, false, false, false, false, false, false, false, false, false, false, false, false, false, false, false, false, false, false, false, false, false, false, false, false, false, false, false, false, false, false, false, false, false, false, false, false, false, false, false, false, false, false, false, false, false, false] rfl rfl (any_of HT_.out (by kernel_rfl)) (fun _ _ _ h => h) (Or.inl ⟨by rfl, ?_⟩) ?_ ?_
                                        rotate_left
                                        · intro w'
                                          go_simp
                                          with_reducible rfl
                                        rotate_left
                                        · simp only [Act.put, List.setIfInBounds_toArray, List.set_cons_zero, List.set_cons_succ, i64_w, i32_w]
                                          rfl
                                        refine pure_ (i := 1) (N := some 85) (v := ?_) (a' := ?_) #[true, true, false, false, false, false, false, false, false, false, false, false, false, false, false, false, false, false, false, false, false, false, false, false, false, false, false, false, false, false, false, false, false, false, false, false, false, false, false, false, false, false, false, false, false, false, false, false, false, false, false, false, false] rfl rfl (any_of HT_.out (by kernel_rfl)) (fun _ _ _ h => h) (Or.inl ⟨by rfl, ?_⟩) ?_ ?_
                                        rotate_left
                                        · intro w'
                                          go_simp
                                          with_reducible rfl
                                        rotate_left
                                        · simp only [Act.put, List.setIfInBounds_toArray, List.set_cons_zero, List.set_cons_succ, i64_w, i32_w]
                                          rfl
                                        refine pure_ (i := 2) (N := some 86) (v := ?_) (a' := ?_) #[true, true, true, false, false, false, false, false, false, false, false, false, false, false, false, false, false, false, false, false, false, false, false, false, false, false, false, false, false, false, false, false, false, false, false, false, false, false, false, false, false, false, false, false, false, false, false, false, false, false, false, false, false] rfl rfl (any_of HT_.out (by kernel_rfl)) (fun _ _ _ h => h) (Or.inl ⟨by rfl, ?_⟩) ?_ ?_
                                        rotate_left
                                        · intro w'
                                          go_simp
                                          with_reducible rfl
                                        rotate_left
                                        · simp only [Act.put, List.setIfInBounds_toArray, List.set_cons_zero, List.set_cons_succ, i64_w, i32_w]
                                          rfl
                                        refine pure_ (i := 3) (N := some 87) (v := ?_) (a' := ?_) #[true, true, true, true, false, false, false, false, false, false, false, false, false, false, false, false, false, false, false, false, false, false, false, false, false, false, false, false, false, false, false, false, false, false, false, false, false, false, false, false, false, false, false, false, false, false, false, false, false, false, false, false, false] rfl rfl (any_of HT_.out (by kernel_rfl)) (fun _ _ _ h => h) (Or.inl ⟨by rfl, ?_⟩) ?_ ?_
                                        rotate_left
                                        · intro w'
                                          go_simp
                                          with_reducible rfl
                                        rotate_left
                                        · simp only [Act.put, List.setIfInBounds_toArray, List.set_cons_zero, List.set_cons_succ, i64_w, i32_w]
                                          rfl
                                        refine pure_ (i := 4) (N := some 88) (v := ?_) (a' := ?_) #[true, true, true, true, true, false, false, false, false, false, false, false, false, false, false, false, false, false, false, false, false, false, false, false, false, false, false, false, false, false, false, false, false, false, false, false, false, false, false, false, false, false, false, false, false, false, false, false, false, false, false, false, false] rfl rfl (any_of HT_.out (by kernel_rfl)) (fun _ _ _ h => h) (Or.inl ⟨by rfl, ?_⟩) ?_ ?_
                                        rotate_left
                                        · intro w'
                                          go_simp
                                          with_reducible rfl
                                        rotate_left
                                        · simp only [Act.put, List.setIfInBounds_toArray, List.set_cons_zero, List.set_cons_succ, i64_w, i32_w]
                                          rfl
                                        refine pure_ (i := 5) (N := some 89) (v := ?_) (a' := ?_) #[true, true, true, true, true, true, false, false, false, false, false, false, false, false, false, false, false, false, false, false, false, false, false, false, false, false, false, false, false, false, false, false, false, false, false, false, false, false, false, false, false, false, false, false, false, false, false, false, false, false, false, false, false] rfl rfl (any_of HT_.out (by kernel_rfl)) (fun _ _ _ h => h) (Or.inl ⟨by rfl, ?_⟩) ?_ ?_
                                        rotate_left
                                        · intro w'
                                          go_simp
                                          with_reducible rfl
                                        rotate_left
                                        · simp only [Act.put, List.setIfInBounds_toArray, List.set_cons_zero, List.set_cons_succ, i64_w, i32_w]
                                          rfl
                                        refine pure_ (i := 6) (N := some 90) (v := ?_) (a' := ?_) #[true, true, true, true, true, true, true, false, false, false, false, false, false, false, false, false, false, false, false, false, false, false, false, false, false, false, false, false, false, false, false, false, false, false, false, false, false, false, false, false, false, false, false, false, false, false, false, false, false, false, false, false, false] rfl rfl (any_of HT_.out (by kernel_rfl)) (fun _ _ _ h => h) (Or.inl ⟨by rfl, ?_⟩) ?_ ?_
                                        rotate_left
                                        · intro w'
                                          go_simp
                                          with_reducible rfl
                                        rotate_left
                                        · simp only [Act.put, List.setIfInBounds_toArray, List.set_cons_zero, List.set_cons_succ, i64_w, i32_w]
                                          rfl
                                        refine pure_ (i := 7) (N := some 91) (v := ?_) (a' := ?_) #[true, true, true, true, true, true, true, true, false, false, false, false, false, false, false, false, false, false, false, false, false, false, false, false, false, false, false, false, false, false, false, false, false, false, false, false, false, false, false, false, false, false, false, false, false, false, false, false, false, false, false, false, false] rfl rfl (any_of HT_.out (by kernel_rfl)) (fun _ _ _ h => h) (Or.inl ⟨by rfl, ?_⟩) ?_ ?_
                                        rotate_left
                                        · intro w'
                                          go_simp
                                          with_reducible rfl
                                        rotate_left
                                        · simp only [Act.put, List.setIfInBounds_toArray, List.set_cons_zero, List.set_cons_succ, i64_w, i32_w]
                                          rfl
                                        refine pure_ (i := 8) (N := some 92) (v := ?_) (a' := ?_) #[true, true, true, true, true, true, true, true, true, false, false, false, false, false, false, false, false, false, false, false, false, false, false, false, false, false, false, false, false, false, false, false, false, false, false, false, false, false, false, false, false, false, false, false, false, false, false, false, false, false, false, false, false] rfl rfl (any_of HT_.out (by kernel_rfl)) (fun _ _ _ h => h) (Or.inl ⟨by rfl, ?_⟩) ?_ ?_
                                        rotate_left
                                        · intro w'
                                          go_simp
                                          with_reducible rfl
                                        rotate_left
                                        · simp only [Act.put, List.setIfInBounds_toArray, List.set_cons_zero, List.set_cons_succ, i64_w, i32_w]
                                          rfl
                                        refine pure_ (i := 9) (N := some 93) (v := ?_) (a' := ?_) #[true, true, true, true, true, true, true, true, true, true, false, false, false, false, false, false, false, false, false, false, false, false, false, false, false, false, false, false, false, false, false, false, false, false, false, false, false, false, false, false, false, false, false, false, false, false, false, false, false, false, false, false, false] rfl rfl (any_of HT_.out (by kernel_rfl)) (fun _ _ _ h => h) (Or.inl ⟨by rfl, ?_⟩) ?_ ?_
                                        rotate_left
                                        · intro w'
                                          go_simp
                                          with_reducible rfl
                                        rotate_left
                                        · simp only [Act.put, List.setIfInBounds_toArray, List.set_cons_zero, List.set_cons_succ, i64_w, i32_w]
                                          rfl
                                        refine pure_ (i := 10) (N := some 94) (v := ?_) (a' := ?_) #[true, true, true, true, true, true, true, true, true, true, true, false, false, false, false, false, false, false, false, false, false, false, false, false, false, false, false, false, false, false, false, false, false, false, false, false, false, false, false, false, false, false, false, false, false, false, false, false, false, false, false, false, false] rfl rfl (any_of HT_.out (by kernel_rfl)) (fun _ _ _ h => h) (Or.inl ⟨by rfl, ?_⟩) ?_ ?_
                                        rotate_left
                                        · intro w'
                                          go_simp
                                          with_reducible rfl
                                        rotate_left
                                        · simp only [Act.put, List.setIfInBounds_toArray, List.set_cons_zero, List.set_cons_succ, i64_w, i32_w]
                                          rfl
                                        refine pure_ (i := 11) (N := some 95) (v := ?_) (a' := ?_) #[true, true, true, true, true, true, true, true, true, true, true, true, false, false, false, false, false, false, false, false, false, false, false, false, false, false, false, false, false, false, false, false, false, false, false, false, false, false, false, false, false, false, false, false, false, false, false, false, false, false, false, false, false] rfl rfl (any_of HT_.out (by kernel_rfl)) (fun _ _ _ h => h) (Or.inl ⟨by rfl, ?_⟩) ?_ ?_
                                        rotate_left
                                        · intro w'
                                          go_simp
                                          with_reducible rfl
                                        rotate_left
                                        · simp only [Act.put, List.setIfInBounds_toArray, List.set_cons_zero, List.set_cons_succ, i64_w, i32_w]
                                          rfl
                                        refine pure_ (i := 12) (N := some 96) (v := ?_) (a' := ?_) #[true, true, true, true, true, true, true, true, true, true, true, true, true, false, false, false, false, false, false, false, false, false, false, false, false, false, false, false, false, false, false, false, false, false, false, false, false, false, false, false, false, false, false, false, false, false, false, false, false, false, false, false, false] rfl rfl (any_of HT_.out (by kernel_rfl)) (fun _ _ _ h => h) (Or.inl ⟨by rfl, ?_⟩) ?_ ?_
                                        rotate_left
                                        · intro w'
                                          go_simp
                                          with_reducible rfl
                                        rotate_left
                                        · simp only [Act.put, List.setIfInBounds_toArray, List.set_cons_zero, List.set_cons_succ, i64_w, i32_w]
                                          rfl
                                        refine pure_ (i := 13) (N := some 97) (v := ?_) (a' := ?_) #[true, true, true, true, true, true, true, true, true, true, true, true, true, true, false, false, false, false, false, false, false, false, false, false, false, false, false, false, false, false, false, false, false, false, false, false, false, false, false, false, false, false, false, false, false, false, false, false, false, false, false, false, false] rfl rfl (any_of HT_.out (by kernel_rfl)) (fun _ _ _ h => h) (Or.inl ⟨by rfl, ?_⟩) ?_ ?_
                                        rotate_left
                                        · intro w'
                                          go_simp
                                          with_reducible rfl
                                        rotate_left
                                        · simp only [Act.put, List.setIfInBounds_toArray, List.set_cons_zero, List.set_cons_succ, i64_w, i32_w]
                                          rfl
                                        refine pure_ (i := 14) (N := some 98) (v := ?_) (a' := ?_) #[true, true, true, true, true, true, true, true, true, true, true, true, true, true, true, false, false, false, false, false, false, false, false, false, false, false, false, false, false, false, false, false, false, false, false, false, false, false, false, false, false, false, false, false, false, false, false, false, false, false, false, false, false] rfl rfl (any_of HT_.out (by kernel_rfl)) (fun _ _ _ h => h) (Or.inl ⟨by rfl, ?_⟩) ?_ ?_
                                        rotate_left
                                        · intro w'
                                          go_simp
                                          with_reducible rfl
                                        rotate_left
                                        · simp only [Act.put, List.setIfInBounds_toArray, List.set_cons_zero, List.set_cons_succ, i64_w, i32_w]
                                          rfl
                                        refine pure_ (i := 15) (N := some 99) (v := ?_) (a' := ?_) #[true, true, true, true, true, true, true, true, true, true, true, true, true, true, true, true, false, false, false, false, false, false, false, false, false, false, false, false, false, false, false, false, false, false, false, false, false, false, false, false, false, false, false, false, false, false, false, false, false, false, false, false, false] rfl rfl (any_of HT_.out (by kernel_rfl)) (fun _ _ _ h => h) (Or.inl ⟨by rfl, ?_⟩) ?_ ?_
                                        rotate_left
                                        · intro w'
                                          go_simp
                                          with_reducible rfl
                                        rotate_left
                                        · simp only [Act.put, List.setIfInBounds_toArray, List.set_cons_zero, List.set_cons_succ, i64_w, i32_w]
                                          rfl
                                        refine pure_ (i := 16) (N := some 100) (v := ?_) (a' := ?_) #[true, true, true, true, true, true, true, true, true, true, true, true, true, true, true, true, true, false, false, false, false, false, false, false, false, false, false, false, false, false, false, false, false, false, false, false, false, false, false, false, false, false, false, false, false, false, false, false, false, false, false, false, false] rfl rfl (any_of HT_.out (by kernel_rfl)) (fun _ _ _ h => h) (Or.inl ⟨by rfl, ?_⟩) ?_ ?_
                                        rotate_left
                                        · intro w'
                                          go_simp
                                          with_reducible rfl
                                        rotate_left
                                        · simp only [Act.put, List.setIfInBounds_toArray, List.set_cons_zero, List.set_cons_succ, i64_w, i32_w]
                                          rfl
                                        refine pure_ (i := 17) (N := some 101) (v := ?_) (a' := ?_) #[true, true, true, true, true, true, true, true, true, true, true, true, true, true, true, true, true, true, false, false, false, false, false, false, false, false, false, false, false, false, false, false, false, false, false, false, false, false, false, false, false, false, false, false, false, false, false, false, false, false, false, false, false] rfl rfl (any_of HT_.out (by kernel_rfl)) (fun _ _ _ h => h) (Or.inl ⟨by rfl, ?_⟩) ?_ ?_
                                        rotate_left
                                        · intro w'
                                          go_simp
                                          with_reducible rfl
                                        rotate_left
                                        · simp only [Act.put, List.setIfInBounds_toArray, List.set_cons_zero, List.set_cons_succ, i64_w, i32_w]
                                          rfl
                                        refine pure_ (i := 19) (N := some 103) (v := ?_) (a' := ?_) #[true, true, true, true, true, true, true, true, true, true, true, true, true, true, true, true, true, true, false, true, false, false, false, false, false, false, false, false, false, false, false, false, false, false, false, false, false, false, false, false, false, false, false, false, false, false, false, false, false, false, false, false, false] rfl rfl (any_of HT_.out (by kernel_rfl)) (fun _ _ _ h => h) (Or.inl ⟨by rfl, ?_⟩) ?_ ?_
                                        rotate_left
                                        · intro w'
                                          go_simp
                                          with_reducible rfl
                                        rotate_left
                                        · simp only [Act.put, List.setIfInBounds_toArray, List.set_cons_zero, List.set_cons_succ, i64_w, i32_w]
                                          rfl
                                        refine pure_ (i := 21) (N := some 105) (v := ?_) (a' := ?_) #[true, true, true, true, true, true, true, true, true, true, true, true, true, true, true, true, true, true, false, true, false, true, false, false, false, false, false, false, false, false, false, false, false, false, false, false, false, false, false, false, false, false, false, false, false, false, false, false, false, false, false, false, false] rfl rfl (any_of HT_.out (by kernel_rfl)) (fun _ _ _ h => h) (Or.inl ⟨by rfl, ?_⟩) ?_ ?_
                                        rotate_left
                                        · intro w'
                                          go_simp
                                          with_reducible rfl
                                        rotate_left
                                        · simp only [Act.put, List.setIfInBounds_toArray, List.set_cons_zero, List.set_cons_succ, i64_w, i32_w]
                                          rfl
                                        refine take_ (i := 18) (N := some 102) (v := ?_) (a' := ?_) #[true, true, true, true, true, true, true, true, true, true, true, true, true, true, true, true, true, true, true, true, false, true, false, false, false, false, false, false, false, false, false, false, false, false, false, false, false, false, false, false, false, false, false, false, false, false, false, false, false, false, false, false, false] rfl rfl (take_ofW HT_.out HW_.out (by kernel_rfl)) (fun _ _ _ h => h) (Or.inl ⟨by rfl, ?_⟩) hHeld ?_ ?_
                                        rotate_left
                                        · rintro w' ⟨s0, s1⟩
                                          go_simp
                                          with_reducible rfl
                                        rotate_left
                                        · simp only [Act.put, List.setIfInBounds_toArray, List.set_cons_zero, List.set_cons_succ, i64_w, i32_w]
                                          rfl
                                        refine take_ (i := 20) (N := some 104) (v := ?_) (a' := ?_) #[true, true, true, true, true, true, true, true, true, true, true, true, true, true, true, true, true, true, true, true, true, true, false, false, false, false, false, false, false, false, false, false, false, false, false, false, false, false, false, false, false, false, false, false, false, false, false, false, false, false, false, false, false] rfl rfl (take_ofW HT_.out HW_.out (by kernel_rfl)) (fun _ _ _ h => h) (Or.inl ⟨by rfl, ?_⟩) hHeld ?_ ?_
                                        rotate_left
                                        · rintro w' ⟨s0, s1⟩
                                          go_simp
                                          with_reducible rfl
                                        rotate_left
                                        · simp only [Act.put, List.setIfInBounds_toArray, List.set_cons_zero, List.set_cons_succ, i64_w, i32_w]
                                          rfl
                                        refine one_ (i := 22) (N := some 106) #[true, true, true, true, true, true, true, true, true, true, true, true, true, true, true, true, true, true, true, true, true, true, true, false, false, false, false, false, false, false, false, false, false, false, false, false, false, false, false, false, false, false, false, false, false, false, false, false, false, false, false, false, false] rfl rfl (one_of HT_.out (by kernel_rfl)) (by decide) (fun K hK => ?_)
                                        refine goes_ Try.func17 (by kernel_rfl) rfl #[.string t169] (by rfl) rfl rfl (by (try simp only [List.map_toArray, List.map_cons, List.map_nil]); first | done | rfl | (simp only [List.length_drop, List.length_take]; rfl)) ?_
                                        with_reducible refine (donatusref1_PutText.calls k t169 t214 _ A30.out).mono ?_
                                        rintro e w69 ⟨v215, rfl, ho0, hb⟩
                                        refine ⟨_, rfl, ?_⟩
                                        have n0_ := Aside0.mk (Kd.V_elder' (by (with_reducible repeat (first | apply Kd.V_alloc | apply Kd.V_drewN | apply Kd.V_drew)); exact HO165.out) (Kd.R_base ho0) hb)
                                        have n1_ := Aside0.mk (Kd.V_elder' (by (with_reducible repeat (first | apply Kd.V_alloc | apply Kd.V_drewN | apply Kd.V_drew)); exact HO168.out) (Kd.R_base ho0) hb)
                                        have n2_ := Aside0.mk (Kd.R_elder' (by (with_reducible repeat (first | apply Kd.R_alloc | apply Kd.R_drewN | apply Kd.R_drew)); exact HO175.out) (Kd.R_base ho0) hb)
                                        have n3_ := Aside0.mk (Kd.R_elder' (by (with_reducible repeat (first | apply Kd.R_alloc | apply Kd.R_drewN | apply Kd.R_drew)); exact HO178.out) (Kd.R_base ho0) hb)
                                        have n4_ := Aside0.mk (Kd.R_elder' (by (with_reducible repeat (first | apply Kd.R_alloc | apply Kd.R_drewN | apply Kd.R_drew)); exact HO188.out) (Kd.R_base ho0) hb)
                                        have n5_ := Aside0.mk (Kd.R_elder' (by (with_reducible repeat (first | apply Kd.R_alloc | apply Kd.R_drewN | apply Kd.R_drew)); exact HO197.out) (Kd.R_base ho0) hb)
                                        have n6_ := Aside0.mk (Kd.R_elder' (by (with_reducible repeat (first | apply Kd.R_alloc | apply Kd.R_drewN | apply Kd.R_drew)); exact HO207.out) (Kd.R_base ho0) hb)
                                        have n7_ := Aside0.mk (Kd.R_elder' (by (with_reducible repeat (first | apply Kd.R_alloc | apply Kd.R_drewN | apply Kd.R_drew)); exact HO213.out) (Kd.R_base ho0) hb)
                                        have n8_ := Aside0.mk (Kd.R_lower (Kd.R_new' (Kd.R_new' (Kd.R_new' (Kd.R_new' (Kd.R_new' (Kd.R_new' ho0 (Kd.R_lt (by (with_reducible repeat (first | apply Kd.R_alloc | apply Kd.R_drewN | apply Kd.R_drew)); exact HO175.out))) (Kd.R_lt (by (with_reducible repeat (first | apply Kd.R_alloc | apply Kd.R_drewN | apply Kd.R_drew)); exact HO178.out))) (Kd.R_lt (by (with_reducible repeat (first | apply Kd.R_alloc | apply Kd.R_drewN | apply Kd.R_drew)); exact HO188.out))) (Kd.R_lt (by (with_reducible repeat (first | apply Kd.R_alloc | apply Kd.R_drewN | apply Kd.R_drew)); exact HO197.out))) (Kd.R_lt (by (with_reducible repeat (first | apply Kd.R_alloc | apply Kd.R_drewN | apply Kd.R_drew)); exact HO207.out))) (Kd.R_lt (by (with_reducible repeat (first | apply Kd.R_alloc | apply Kd.R_drewN | apply Kd.R_drew)); exact HO213.out))) (below_size (by repeat (first | (with_reducible first | exact HB.out | apply below_alloc | apply pw_below_drewN | apply below_drew1) | exact HB.out))))
                                        have n9_ := Aside0.mk (Kd.C_below (by repeat (first | (with_reducible exact HR201.out) | (with_reducible refine Kd.C_alloc ?_ _) | (with_reducible refine Kd.C_drewN ?_ _) | (with_reducible refine Kd.C_drew ?_) | exact HR201.out)) hb)
                                        have n10_ := Aside0.mk (below_step (by repeat (first | (with_reducible first | exact HB.out | apply below_alloc | apply pw_below_drewN | apply below_drew1) | exact HB.out)) hb)
                                        clear HO165
                                        clear HO168
                                        clear HO175
                                        clear HO178
                                        clear HO188
                                        clear HO197
                                        clear HO207
                                        clear HO213
                                        clear HR201
                                        clear HB
                                        have HO165 := n0_
                                        have HO168 := n1_
                                        have HO175 := n2_
                                        have HO178 := n3_
                                        have HO188 := n4_
                                        have HO197 := n5_
                                        have HO207 := n6_
                                        have HO213 := n7_
                                        have HO216 := n8_
                                        have HR201 := n9_
                                        have HB := n10_
                                        clear n0_ n1_ n2_ n3_ n4_ n5_ n6_ n7_ n8_ n9_ n10_
                                        (try clear hb)
                                        (try clear hb2)
                                        (try clear hk)
                                        (try clear hi)
                                        (try clear ho0)
                                        refine hK.out _ _ ⟨(Kd.R_string_as Try.underlying22 Try.underlying5 Try.underlying9 (by (with_reducible repeat (first | apply Kd.R_alloc | apply Kd.R_drewN | apply Kd.R_drew)); exact HO197.out)), (Kd.V_string_as Try.underlying22 Try.underlying5 Try.underlying9 (by (with_reducible repeat (first | apply Kd.V_alloc | apply Kd.V_drewN | apply Kd.V_drew)); exact HO165.out))⟩ (fun hHeld => ?_)
                                        clear hK K
                                        refine norm_ (a' := ?_) ?_ ?_
                                        rotate_left
                                        · show Act.put _ (some 106) _ = _
                                          simp only [Act.put, List.setIfInBounds_toArray, List.set_cons_zero, List.set_cons_succ, i64_w, i32_w]
                                          rfl
                                        refine one_ (i := 23) (N := some 107) #[true, true, true, true, true, true, true, true, true, true, true, true, true, true, true, true, true, true, true, true, true, true, true, true, false, false, false, false, false, false, false, false, false, false, false, false, false, false, false, false, false, false, false, false, false, false, false, false, false, false, false, false, false] rfl rfl (one_of HT_.out (by kernel_rfl)) (by decide) (fun K hK => ?_)
                                        have hcv70 := own_string (P := Try.prog) Try.underlying22 Try.underlying5 Try.underlying9 (Kd.own_of_R HO216.out)
                                        refine value_ (w1 := ?_) (v := ?_) (by rfl) rfl ?_ ?_
                                        rotate_left 2
                                        · go_simp
                                          constructor
                                          · rfl
                                          · rfl
                                        clear hcv70
                                        refine hK.out _ _ ⟨(Kd.R_string_as Try.underlying22 Try.underlying5 Try.underlying9 (by (with_reducible repeat (first | apply Kd.R_alloc | apply Kd.R_drewN | apply Kd.R_drew)); exact HO197.out)), (Kd.V_string_as Try.underlying22 Try.underlying5 Try.underlying9 (by (with_reducible repeat (first | apply Kd.V_alloc | apply Kd.V_drewN | apply Kd.V_drew)); exact HO165.out))⟩ (fun hHeld => ?_)
                                        clear hK K
                                        refine norm_ (a' := ?_) ?_ ?_
                                        rotate_left
                                        · show Act.put _ (some 107) _ = _
                                          simp only [Act.put, List.setIfInBounds_toArray, List.set_cons_zero, List.set_cons_succ, i64_w, i32_w]
                                          rfl
                                        refine pure_ (i := 24) (N := some 108) (v := ?_) (a' := ?_) #[true, true, true, true, true, true, true, true, true, true, true, true, true, true, true, true, true, true, true, true, true, true, true, true, true, false, false, false, false, false, false, false, false, false, false, false, false, false, false, false, false, false, false, false, false, false, false, false, false, false, false, false, false] rfl rfl (any_of HT_.out (by kernel_rfl)) (fun _ _ _ h => h) (Or.inl ⟨by rfl, ?_⟩) ?_ ?_
                                        rotate_left
                                        · intro w'
                                          go_simp
                                          with_reducible rfl
                                        rotate_left
                                        · simp only [Act.put, List.setIfInBounds_toArray, List.set_cons_zero, List.set_cons_succ, i64_w, i32_w]
                                          rfl
                                        refine pure_ (i := 25) (N := some 109) (v := ?_) (a' := ?_) #[true, true, true, true, true, true, true, true, true, true, true, true, true, true, true, true, true, true, true, true, true, true, true, true, true, true, false, false, false, false, false, false, false, false, false, false, false, false, false, false, false, false, false, false, false, false, false, false, false, false, false, false, false] rfl rfl (any_of HT_.out (by kernel_rfl)) (fun _ _ _ h => h) (Or.inl ⟨by rfl, ?_⟩) ?_ ?_
                                        rotate_left
                                        · intro w'
                                          go_simp
                                          with_reducible rfl
                                        rotate_left
                                        · simp only [Act.put, List.setIfInBounds_toArray, List.set_cons_zero, List.set_cons_succ, i64_w, i32_w]
                                          rfl
                                        refine pure_ (i := 26) (N := some 110) (v := ?_) (a' := ?_) #[true, true, true, true, true, true, true, true, true, true, true, true, true, true, true, true, true, true, true, true, true, true, true, true, true, true, true, false, false, false, false, false, false, false, false, false, false, false, false, false, false, false, false, false, false, false, false, false, false, false, false, false, false] rfl rfl (any_of HT_.out (by kernel_rfl)) (fun _ _ _ h => h) (Or.inl ⟨by rfl, ?_⟩) ?_ ?_
                                        rotate_left
                                        · intro w'
                                          go_simp
                                          with_reducible rfl
                                        rotate_left
                                        · simp only [Act.put, List.setIfInBounds_toArray, List.set_cons_zero, List.set_cons_succ, i64_w, i32_w]
                                          rfl
                                        refine pure_ (i := 27) (N := some 111) (v := ?_) (a' := ?_) #[true, true, true, true, true, true, true, true, true, true, true, true, true, true, true, true, true, true, true, true, true, true, true, true, true, true, true, true, false, false, false, false, false, false, false, false, false, false, false, false, false, false, false, false, false, false, false, false, false, false, false, false, false] rfl rfl (any_of HT_.out (by kernel_rfl)) (fun _ _ _ h => h) (Or.inl ⟨by rfl, ?_⟩) ?_ ?_
                                        rotate_left
                                        · intro w'
                                          go_simp
                                          with_reducible rfl
                                        rotate_left
                                        · simp only [Act.put, List.setIfInBounds_toArray, List.set_cons_zero, List.set_cons_succ, i64_w, i32_w]
                                          rfl
                                        refine pure_ (i := 28) (N := some 112) (v := ?_) (a' := ?_) #[true, true, true, true, true, true, true, true, true, true, true, true, true, true, true, true, true, true, true, true, true, true, true, true, true, true, true, true, true, false, false, false, false, false, false, false, false, false, false, false, false, false, false, false, false, false, false, false, false, false, false, false, false] rfl rfl (any_of HT_.out (by kernel_rfl)) (fun _ _ _ h => h) (Or.inl ⟨by rfl, ?_⟩) ?_ ?_
                                        rotate_left
                                        · intro w'
                                          go_simp
                                          with_reducible rfl
                                        rotate_left
                                        · simp only [Act.put, List.setIfInBounds_toArray, List.set_cons_zero, List.set_cons_succ, i64_w, i32_w]
                                          rfl
                                        refine pure_ (i := 29) (N := some 113) (v := ?_) (a' := ?_) #[true, true, true, true, true, true, true, true, true, true, true, true, true, true, true, true, true, true, true, true, true, true, true, true, true, true, true, true, true, true, false, false, false, false, false, false, false, false, false, false, false, false, false, false, false, false, false, false, false, false, false, false, false] rfl rfl (any_of HT_.out (by kernel_rfl)) (fun _ _ _ h => h) (Or.inl ⟨by rfl, ?_⟩) ?_ ?_
                                        rotate_left
                                        · intro w'
                                          go_simp
                                          with_reducible rfl
                                        rotate_left
                                        · simp only [Act.put, List.setIfInBounds_toArray, List.set_cons_zero, List.set_cons_succ, i64_w, i32_w]
                                          rfl
                                        refine pure_ (i := 30) (N := some 114) (v := ?_) (a' := ?_) #[true, true, true, true, true, true, true, true, true, true, true, true, true, true, true, true, true, true, true, true, true, true, true, true, true, true, true, true, true, true, true, false, false, false, false, false, false, false, false, false, false, false, false, false, false, false, false, false, false, false, false, false, false] rfl rfl (any_of HT_.out (by kernel_rfl)) (fun _ _ _ h => h) (Or.inl ⟨by rfl, ?_⟩) ?_ ?_
                                        rotate_left
                                        · intro w'
                                          go_simp
                                          with_reducible rfl
                                        rotate_left
                                        · simp only [Act.put, List.setIfInBounds_toArray, List.set_cons_zero, List.set_cons_succ, i64_w, i32_w]
                                          rfl
                                        refine pure_ (i := 31) (N := some 115) (v := ?_) (a' := ?_) #[true, true, true, true, true, true, true, true, true, true, true, true, true, true, true, true, true, true, true, true, true, true, true, true, true, true, true, true, true, true, true, true, false, false, false, false, false, false, false, false, false, false, false, false, false, false, false, false, false, false, false, false, false] rfl rfl (any_of HT_.out (by kernel_rfl)) (fun _ _ _ h => h) (Or.inl ⟨by rfl, ?_⟩) ?_ ?_
                                        rotate_left
                                        · intro w'
                                          go_simp
                                          with_reducible rfl
                                        rotate_left
                                        · simp only [Act.put, List.setIfInBounds_toArray, List.set_cons_zero, List.set_cons_succ, i64_w, i32_w]
                                          rfl
                                        refine pure_ (i := 32) (N := some 116) (v := ?_) (a' := ?_) #[true, true, true, true, true, true, true, true, true, true, true, true, true, true, true, true, true, true, true, true, true, true, true, true, true, true, true, true, true, true, true, true, true, false, false, false, false, false, false, false, false, false, false, false, false, false, false, false, false, false, false, false, false] rfl rfl (any_of HT_.out (by kernel_rfl)) (fun _ _ _ h => h) (Or.inl ⟨by rfl, ?_⟩) ?_ ?_
                                        rotate_left
                                        · intro w'
                                          go_simp
                                          with_reducible rfl
                                        rotate_left
                                        · simp only [Act.put, List.setIfInBounds_toArray, List.set_cons_zero, List.set_cons_succ, i64_w, i32_w]
                                          rfl
                                        refine pure_ (i := 33) (N := some 117) (v := ?_) (a' := ?_) #[true, true, true, true, true, true, true, true, true, true, true, true, true, true, true, true, true, true, true, true, true, true, true, true, true, true, true, true, true, true, true, true, true, true, false, false, false, false, false, false, false, false, false, false, false, false, false, false, false, false, false, false, false] rfl rfl (any_of HT_.out (by kernel_rfl)) (fun _ _ _ h => h) (Or.inl ⟨by rfl, ?_⟩) ?_ ?_
                                        rotate_left
                                        · intro w'
                                          go_simp
                                          with_reducible rfl
                                        rotate_left
                                        · simp only [Act.put, List.setIfInBounds_toArray, List.set_cons_zero, List.set_cons_succ, i64_w, i32_w]
                                          rfl
                                        refine pure_ (i := 34) (N := some 118) (v := ?_) (a' := ?_) #[true, true, true, true, true, true, true, true, true, true, true, true, true, true, true, true, true, true, true, true, true, true, true, true, true, true, true, true, true, true, true, true, true, true, true, false, false, false, false, false, false, false, false, false, false, false, false, false, false, false, false, false, false] rfl rfl (any_of HT_.out (by kernel_rfl)) (fun _ _ _ h => h) (Or.inl ⟨by rfl, ?_⟩) ?_ ?_
                                        rotate_left
                                        · intro w'
                                          go_simp
                                          with_reducible rfl
                                        rotate_left
                                        · simp only [Act.put, List.setIfInBounds_toArray, List.set_cons_zero, List.set_cons_succ, i64_w, i32_w]
                                          rfl
                                        refine pure_ (i := 35) (N := some 119) (v := ?_) (a' := ?_) #[true, true, true, true, true, true, true, true, true, true, true, true, true, true, true, true, true, true, true, true, true, true, true, true, true, true, true, true, true, true, true, true, true, true, true, true, false, false, false, false, false, false, false, false, false, false, false, false, false, false, false, false, false] rfl rfl (any_of HT_.out (by kernel_rfl)) (fun _ _ _ h => h) (Or.inl ⟨by rfl, ?_⟩) ?_ ?_
                                        rotate_left
                                        · intro w'
                                          go_simp
                                          with_reducible rfl
                                        rotate_left
                                        · simp only [Act.put, List.setIfInBounds_toArray, List.set_cons_zero, List.set_cons_succ, i64_w, i32_w]
                                          rfl
                                        refine pure_ (i := 36) (N := some 120) (v := ?_) (a' := ?_) #[true, true, true, true, true, true, true, true, true, true, true, true, true, true, true, true, true, true, true, true, true, true, true, true, true, true, true, true, true, true, true, true, true, true, true, true, true, false, false, false, false, false, false, false, false, false, false, false, false, false, false, false, false] rfl rfl (any_of HT_.out (by kernel_rfl)) (fun _ _ _ h => h) (Or.inl ⟨by rfl, ?_⟩) ?_ ?_
                                        rotate_left
                                        · intro w'
                                          go_simp
                                          with_reducible rfl
                                        rotate_left
                                        · simp only [Act.put, List.setIfInBounds_toArray, List.set_cons_zero, List.set_cons_succ, i64_w, i32_w]
                                          rfl
                                        refine pure_ (i := 37) (N := some 121) (v := ?_) (a' := ?_) #[true, true, true, true, true, true, true, true, true, true, true, true, true, true, true, true, true, true, true, true, true, true, true, true, true, true, true, true, true, true, true, true, true, true, true, true, true, true, false, false, false, false, false, false, false, false, false, false, false, false, false, false, false] rfl rfl (any_of HT_.out (by kernel_rfl)) (fun _ _ _ h => h) (Or.inl ⟨by rfl, ?_⟩) ?_ ?_
                                        rotate_left
                                        · intro w'
                                          go_simp
                                          with_reducible rfl
                                        rotate_left
                                        · simp only [Act.put, List.setIfInBounds_toArray, List.set_cons_zero, List.set_cons_succ, i64_w, i32_w]
                                          rfl
                                        refine pure_ (i := 38) (N := some 122) (v := ?_) (a' := ?_) #[true, true, true, true, true, true, true, true, true, true, true, true, true, true, true, true, true, true, true, true, true, true, true, true, true, true, true, true, true, true, true, true, true, true, true, true, true, true, true, false, false, false, false, false, false, false, false, false, false, false, false, false, false] rfl rfl (any_of HT_.out (by kernel_rfl)) (fun _ _ _ h => h) (Or.inl ⟨by rfl, ?_⟩) ?_ ?_
                                        rotate_left
                                        · intro w'
                                          go_simp
                                          with_reducible rfl
                                        rotate_left
                                        · simp only [Act.put, List.setIfInBounds_toArray, List.set_cons_zero, List.set_cons_succ, i64_w, i32_w]
                                          rfl
                                        refine pure_ (i := 39) (N := some 123) (v := ?_) (a' := ?_) #[true, true, true, true, true, true, true, true, true, true, true, true, true, true, true, true, true, true, true, true, true, true, true, true, true, true, true, true, true, true, true, true, true, true, true, true, true, true, true, true, false, false, false, false, false, false, false, false, false, false, false, false, false] rfl rfl (any_of HT_.out (by kernel_rfl)) (fun _ _ _ h => h) (Or.inl ⟨by rfl, ?_⟩) ?_ ?_
                                        rotate_left
                                        · intro w'
                                          go_simp
                                          with_reducible rfl
                                        rotate_left
                                        · simp only [Act.put, List.setIfInBounds_toArray, List.set_cons_zero, List.set_cons_succ, i64_w, i32_w]
                                          rfl
                                        refine pure_ (i := 40) (N := some 124) (v := ?_) (a' := ?_) #[true, true, true, true, true, true, true, true, true, true, true, true, true, true, true, true, true, true, true, true, true, true, true, true, true, true, true, true, true, true, true, true, true, true, true, true, true, true, true, true, true, false, false, false, false, false, false, false, false, false, false, false, false] rfl rfl (any_of HT_.out (by kernel_rfl)) (fun _ _ _ h => h) (Or.inl ⟨by rfl, ?_⟩) ?_ ?_
                                        rotate_left
                                        · intro w'
                                          go_simp
                                          with_reducible rfl
                                        rotate_left
                                        · simp only [Act.put, List.setIfInBounds_toArray, List.set_cons_zero, List.set_cons_succ, i64_w, i32_w]
                                          rfl
                                        refine pure_ (i := 41) (N := some 125) (v := ?_) (a' := ?_) #[true, true, true, true, true, true, true, true, true, true, true, true, true, true, true, true, true, true, true, true, true, true, true, true, true, true, true, true, true, true, true, true, true, true, true, true, true, true, true, true, true, true, false, false, false, false, false, false, false, false, false, false, false] rfl rfl (any_of HT_.out (by kernel_rfl)) (fun _ _ _ h => h) (Or.inl ⟨by rfl, ?_⟩) ?_ ?_
                                        rotate_left
                                        · intro w'
                                          go_simp
                                          with_reducible rfl
                                        rotate_left
                                        · simp only [Act.put, List.setIfInBounds_toArray, List.set_cons_zero, List.set_cons_succ, i64_w, i32_w]
                                          rfl
                                        refine pure_ (i := 42) (N := some 126) (v := ?_) (a' := ?_) #[true, true, true, true, true, true, true, true, true, true, true, true, true, true, true, true, true, true, true, true, true, true, true, true, true, true, true, true, true, true, true, true, true, true, true, true, true, true, true, true, true, true, true, false, false, false, false, false, false, false, false, false, false] rfl rfl (any_of HT_.out (by kernel_rfl)) (fun _ _ _ h => h) (Or.inl ⟨by rfl, ?_⟩) ?_ ?_
                                        rotate_left
                                        · intro w'
                                          go_simp
                                          with_reducible rfl
                                        rotate_left
                                        · simp only [Act.put, List.setIfInBounds_toArray, List.set_cons_zero, List.set_cons_succ, i64_w, i32_w]
                                          rfl
                                        refine pure_ (i := 43) (N := some 127) (v := ?_) (a' := ?_) #[true, true, true, true, true, true, true, true, true, true, true, true, true, true, true, true, true, true, true, true, true, true, true, true, true, true, true, true, true, true, true, true, true, true, true, true, true, true, true, true, true, true, true, true, false, false, false, false, false, false, false, false, false] rfl rfl (any_of HT_.out (by kernel_rfl)) (fun _ _ _ h => h) (Or.inl ⟨by rfl, ?_⟩) ?_ ?_
                                        rotate_left
                                        · intro w'
                                          go_simp
                                          with_reducible rfl
                                        rotate_left
                                        · simp only [Act.put, List.setIfInBounds_toArray, List.set_cons_zero, List.set_cons_succ, i64_w, i32_w]
                                          rfl
                                        refine pure_ (i := 44) (N := some 128) (v := ?_) (a' := ?_) #[true, true, true, true, true, true, true, true, true, true, true, true, true, true, true, true, true, true, true, true, true, true, true, true, true, true, true, true, true, true, true, true, true, true, true, true, true, true, true, true, true, true, true, true, true, false, false, false, false, false, false, false, false] rfl rfl (any_of HT_.out (by kernel_rfl)) (fun _ _ _ h => h) (Or.inl ⟨by rfl, ?_⟩) ?_ ?_
                                        rotate_left
                                        · intro w'
                                          go_simp
                                          with_reducible rfl
                                        rotate_left
                                        · simp only [Act.put, List.setIfInBounds_toArray, List.set_cons_zero, List.set_cons_succ, i64_w, i32_w]
                                          rfl
                                        refine pure_ (i := 45) (N := some 129) (v := ?_) (a' := ?_) #[true, true, true, true, true, true, true, true, true, true, true, true, true, true, true, true, true, true, true, true, true, true, true, true, true, true, true, true, true, true, true, true, true, true, true, true, true, true, true, true, true, true, true, true, true, true, false, false, false, false, false, false, false] rfl rfl (any_of HT_.out (by kernel_rfl)) (fun _ _ _ h => h) (Or.inl ⟨by rfl, ?_⟩) ?_ ?_
                                        rotate_left
                                        · intro w'
                                          go_simp
                                          with_reducible rfl
                                        rotate_left
                                        · simp only [Act.put, List.setIfInBounds_toArray, List.set_cons_zero, List.set_cons_succ, i64_w, i32_w]
                                          rfl
                                        refine pure_ (i := 46) (N := some 130) (v := ?_) (a' := ?_) #[true, true, true, true, true, true, true, true, true, true, true, true, true, true, true, true, true, true, true, true, true, true, true, true, true, true, true, true, true, true, true, true, true, true, true, true, true, true, true, true, true, true, true, true, true, true, true, false, false, false, false, false, false] rfl rfl (any_of HT_.out (by kernel_rfl)) (fun _ _ _ h => h) (Or.inl ⟨by rfl, ?_⟩) ?_ ?_
                                        rotate_left
                                        · intro w'
                                          go_simp
                                          with_reducible rfl
                                        rotate_left
                                        · simp only [Act.put, List.setIfInBounds_toArray, List.set_cons_zero, List.set_cons_succ, i64_w, i32_w]
                                          rfl
                                        refine pure_ (i := 49) (N := some 133) (v := ?_) (a' := ?_) #[true, true, true, true, true, true, true, true, true, true, true, true, true, true, true, true, true, true, true, true, true, true, true, true, true, true, true, true, true, true, true, true, true, true, true, true, true, true, true, true, true, true, true, true, true, true, true, false, false, true, false, false, false] rfl rfl (any_of HT_.out (by kernel_rfl)) (fun _ _ _ h => h) (Or.inl ⟨by rfl, ?_⟩) ?_ ?_
                                        rotate_left
                                        · intro w'
                                          go_simp
                                          with_reducible rfl
                                        rotate_left
                                        · simp only [Act.put, List.setIfInBounds_toArray, List.set_cons_zero, List.set_cons_succ, i64_w, i32_w]
                                          rfl
                                        refine one_ (i := 47) (N := some 131) #[true, true, true, true, true, true, true, true, true, true, true, true, true, true, true, true, true, true, true, true, true, true, true, true, true, true, true, true, true, true, true, true, true, true, true, true, true, true, true, true, true, true, true, true, true, true, true, true, false, true, false, false, false] rfl rfl (one_of HT_.out (by kernel_rfl)) (by decide) (fun K hK => ?_)
                                        refine goes_ Try.func18 (by kernel_rfl) rfl #[.int .u32 a4] (by rfl) rfl rfl (by (try simp only [List.map_toArray, List.map_cons, List.map_nil]); first | done | rfl | (simp only [List.length_drop, List.length_take]; rfl)) ?_
                                        with_reducible refine (num_Four.calls a4 t217 _ A36.out).mono ?_
                                        rintro e w71 ⟨v218, rfl, ho0, hb⟩
                                        refine ⟨_, rfl, ?_⟩
                                        have n0_ := Aside0.mk (Kd.V_elder' (by (with_reducible repeat (first | apply Kd.V_alloc | apply Kd.V_drewN | apply Kd.V_drew)); exact HO165.out) (Kd.R_base ho0) hb)
                                        have n1_ := Aside0.mk (Kd.V_elder' (by (with_reducible repeat (first | apply Kd.V_alloc | apply Kd.V_drewN | apply Kd.V_drew)); exact HO168.out) (Kd.R_base ho0) hb)
                                        have n2_ := Aside0.mk (Kd.R_elder' (by (with_reducible repeat (first | apply Kd.R_alloc | apply Kd.R_drewN | apply Kd.R_drew)); exact HO175.out) (Kd.R_base ho0) hb)
                                        have n3_ := Aside0.mk (Kd.R_elder' (by (with_reducible repeat (first | apply Kd.R_alloc | apply Kd.R_drewN | apply Kd.R_drew)); exact HO178.out) (Kd.R_base ho0) hb)
                                        have n4_ := Aside0.mk (Kd.R_elder' (by (with_reducible repeat (first | apply Kd.R_alloc | apply Kd.R_drewN | apply Kd.R_drew)); exact HO188.out) (Kd.R_base ho0) hb)
                                        have n5_ := Aside0.mk (Kd.R_elder' (by (with_reducible repeat (first | apply Kd.R_alloc | apply Kd.R_drewN | apply Kd.R_drew)); exact HO197.out) (Kd.R_base ho0) hb)
                                        have n6_ := Aside0.mk (Kd.R_elder' (by (with_reducible repeat (first | apply Kd.R_alloc | apply Kd.R_drewN | apply Kd.R_drew)); exact HO207.out) (Kd.R_base ho0) hb)
                                        have n7_ := Aside0.mk (Kd.R_elder' (by (with_reducible repeat (first | apply Kd.R_alloc | apply Kd.R_drewN | apply Kd.R_drew)); exact HO213.out) (Kd.R_base ho0) hb)
                                        have n8_ := Aside0.mk (Kd.R_elder' (by (with_reducible repeat (first | apply Kd.R_alloc | apply Kd.R_drewN | apply Kd.R_drew)); exact HO216.out) (Kd.R_base ho0) hb)
                                        have n9_ := Aside0.mk (Kd.R_lower (Kd.R_new' (Kd.R_new' (Kd.R_new' (Kd.R_new' (Kd.R_new' (Kd.R_new' (Kd.R_new' ho0 (Kd.R_lt (by (with_reducible repeat (first | apply Kd.R_alloc | apply Kd.R_drewN | apply Kd.R_drew)); exact HO175.out))) (Kd.R_lt (by (with_reducible repeat (first | apply Kd.R_alloc | apply Kd.R_drewN | apply Kd.R_drew)); exact HO178.out))) (Kd.R_lt (by (with_reducible repeat (first | apply Kd.R_alloc | apply Kd.R_drewN | apply Kd.R_drew)); exact HO188.out))) (Kd.R_lt (by (with_reducible repeat (first | apply Kd.R_alloc | apply Kd.R_drewN | apply Kd.R_drew)); exact HO197.out))) (Kd.R_lt (by (with_reducible repeat (first | apply Kd.R_alloc | apply Kd.R_drewN | apply Kd.R_drew)); exact HO207.out))) (Kd.R_lt (by (with_reducible repeat (first | apply Kd.R_alloc | apply Kd.R_drewN | apply Kd.R_drew)); exact HO213.out))) (Kd.R_lt (by (with_reducible repeat (first | apply Kd.R_alloc | apply Kd.R_drewN | apply Kd.R_drew)); exact HO216.out))) (below_size (by repeat (first | (with_reducible first | exact HB.out | apply below_alloc | apply pw_below_drewN | apply below_drew1) | exact HB.out))))
                                        have n10_ := Aside0.mk (Kd.C_below (by repeat (first | (with_reducible exact HR201.out) | (with_reducible refine Kd.C_alloc ?_ _) | (with_reducible refine Kd.C_drewN ?_ _) | (with_reducible refine Kd.C_drew ?_) | exact HR201.out)) hb)
                                        have n11_ := Aside0.mk (below_step (by repeat (first | (with_reducible first | exact HB.out | apply below_alloc | apply pw_below_drewN | apply below_drew1) | exact HB.out)) hb)
                                        clear HO165
                                        clear HO168
                                        clear HO175
                                        clear HO178
                                        clear HO188
                                        clear HO197
                                        clear HO207
                                        clear HO213
                                        clear HO216
                                        clear HR201
                                        clear HB
                                        have HO165 := n0_
                                        have HO168 := n1_
                                        have HO175 := n2_
                                        have HO178 := n3_
                                        have HO188 := n4_
                                        have HO197 := n5_
                                        have HO207 := n6_
                                        have HO213 := n7_
                                        have HO216 := n8_
                                        have HO219 := n9_
                                        have HR201 := n10_
                                        have HB := n11_
                                        clear n0_ n1_ n2_ n3_ n4_ n5_ n6_ n7_ n8_ n9_ n10_ n11_
                                        (try clear hb)
                                        (try clear hb2)
                                        (try clear hk)
                                        (try clear hi)
                                        (try clear ho0)
                                        refine hK.out _ _ ⟨(Kd.R_string_as Try.underlying22 Try.underlying5 Try.underlying9 (by (with_reducible repeat (first | apply Kd.R_alloc | apply Kd.R_drewN | apply Kd.R_drew)); exact HO197.out)), (Kd.V_string_as Try.underlying22 Try.underlying5 Try.underlying9 (by (with_reducible repeat (first | apply Kd.V_alloc | apply Kd.V_drewN | apply Kd.V_drew)); exact HO165.out))⟩ (fun hHeld => ?_)
                                        clear hK K
                                        refine norm_ (a' := ?_) ?_ ?_
                                        rotate_left
                                        · show Act.put _ (some 131) _ = _
                                          simp only [Act.put, List.setIfInBounds_toArray, List.set_cons_zero, List.set_cons_succ, i64_w, i32_w]
                                          rfl
                                        refine one_ (i := 48) (N := some 132) #[true, true, true, true, true, true, true, true, true, true, true, true, true, true, true, true, true, true, true, true, true, true, true, true, true, true, true, true, true, true, true, true, true, true, true, true, true, true, true, true, true, true, true, true, true, true, true, true, true, true, false, false, false] rfl rfl (one_of HT_.out (by kernel_rfl)) (by decide) (fun K hK => ?_)
                                        have hcv72 := own_string (P := Try.prog) Try.underlying22 Try.underlying5 Try.underlying9 (Kd.own_of_R HO219.out)
                                        refine value_ (w1 := ?_) (v := ?_) (by rfl) rfl ?_ ?_
                                        rotate_left 2
                                        · go_simp
                                          constructor
                                          · rfl
                                          · rfl
                                        clear hcv72
                                        refine hK.out _ _ ⟨(Kd.R_string_as Try.underlying22 Try.underlying5 Try.underlying9 (by (with_reducible repeat (first | apply Kd.R_alloc | apply Kd.R_drewN | apply Kd.R_drew)); exact HO197.out)), (Kd.V_string_as Try.underlying22 Try.underlying5 Try.underlying9 (by (with_reducible repeat (first | apply Kd.V_alloc | apply Kd.V_drewN | apply Kd.V_drew)); exact HO165.out))⟩ (fun hHeld => ?_)
                                        clear hK K
                                        refine norm_ (a' := ?_) ?_ ?_
                                        rotate_left
                                        · show Act.put _ (some 132) _ = _
                                          simp only [Act.put, List.setIfInBounds_toArray, List.set_cons_zero, List.set_cons_succ, i64_w, i32_w]
                                          rfl
                                        refine pure_ (i := 50) (N := some 134) (v := ?_) (a' := ?_) #[true, true, true, true, true, true, true, true, true, true, true, true, true, true, true, true, true, true, true, true, true, true, true, true, true, true, true, true, true, true, true, true, true, true, true, true, true, true, true, true, true, true, true, true, true, true, true, true, true, true, true, false, false] rfl rfl (any_of HT_.out (by kernel_rfl)) (fun _ _ _ h => h) (Or.inl ⟨by rfl, ?_⟩) ?_ ?_
                                        rotate_left
                                        · intro w'
                                          go_simp
                                          with_reducible rfl
                                        rotate_left
                                        · simp only [Act.put, List.setIfInBounds_toArray, List.set_cons_zero, List.set_cons_succ, i64_w, i32_w]
                                          rfl
                                        refine pure_ (i := 51) (N := some 135) (v := ?_) (a' := ?_) #[true, true, true, true, true, true, true, true, true, true, true, true, true, true, true, true, true, true, true, true, true, true, true, true, true, true, true, true, true, true, true, true, true, true, true, true, true, true, true, true, true, true, true, true, true, true, true, true, true, true, true, true, false] rfl rfl (any_of HT_.out (by kernel_rfl)) (fun _ _ _ h => h) (Or.inl ⟨by rfl, ?_⟩) ?_ ?_
                                        rotate_left
                                        · intro w'
                                          go_simp
                                          with_reducible rfl
                                        rotate_left
                                        · simp only [Act.put, List.setIfInBounds_toArray, List.set_cons_zero, List.set_cons_succ, i64_w, i32_w]
                                          rfl
                                        refine pure_ (i := 52) (N := some 10) (v := ?_) (a' := ?_) #[true, true, true, true, true, true, true, true, true, true, true, true, true, true, true, true, true, true, true, true, true, true, true, true, true, true, true, true, true, true, true, true, true, true, true, true, true, true, true, true, true, true, true, true, true, true, true, true, true, true, true, true, true] rfl rfl (any_of HT_.out (by kernel_rfl)) (fun _ _ _ h => h) (Or.inl ⟨by rfl, ?_⟩) ?_ ?_
                                        rotate_left
                                        · intro w'
                                          go_simp
                                          with_reducible rfl
                                        rotate_left
                                        · simp only [Act.put, List.setIfInBounds_toArray, List.set_cons_zero, List.set_cons_succ, i64_w, i32_w]
                                          rfl
                                        refine done_ (done_of HT_.out (by kernel_rfl)) ?_
                                        try go_wp2
                                        go_ret
                                        exact ⟨by first | rfl | (simp [errW_none, errW_some] <;> rfl) | (simp [*, errW_none, errW_some] <;> rfl), by repeat (first | (with_reducible first | exact HB.out | apply below_alloc | apply pw_below_drewN | apply below_drew1) | exact HB.out)⟩
                                      · rw [if_neg c35] at H
                                        have c35b0 : (t209 == (wrap64 ((t195.length : Int) - (t163.length : Int)))) = false := beq_eq_false_iff_ne.mpr c35
                                        have c35b1 : (t209 != (wrap64 ((t195.length : Int) - (t163.length : Int)))) = true := bne_iff_ne.mpr c35
                                        exact absurd H (by simp)
                                    · rw [if_neg c34] at H
                                      have c34b0 : (t208.toList == t169.toList) = false := beq_eq_false_iff_ne.mpr c34
                                      have c34b1 : (t208.toList != t169.toList) = true := bne_iff_ne.mpr c34
                                      exact absurd H (by simp)
                                  · rw [if_neg c33] at H
                                    have c33b0 : (t210 == 0) = false := beq_eq_false_iff_ne.mpr c33
                                    have c33b1 : (t210 != 0) = true := bne_iff_ne.mpr c33
                                    exact absurd H (by simp)
                                · rw [if_neg c32] at H
                                  have c32b0 : ((strOfNums t195).toList == ((strOfNums t163) ++ (strOfNums t214)).toList) = false := beq_eq_false_iff_ne.mpr c32
                                  have c32b1 : ((strOfNums t195).toList != ((strOfNums t163) ++ (strOfNums t214)).toList) = true := bne_iff_ne.mpr c32
                                  exact absurd H (by simp)
                              · rw [if_neg c31] at H
                                exact absurd H (by simp)
                            · rw [if_neg c29] at H
                              have c29b0 : (t190 == (wrap64 ((t173.length : Int) - (t163.length : Int)))) = false := beq_eq_false_iff_ne.mpr c29
                              have c29b1 : (t190 != (wrap64 ((t173.length : Int) - (t163.length : Int)))) = true := bne_iff_ne.mpr c29
                              exact absurd H (by simp)
                          · rw [if_neg c28] at H
                            have c28b0 : (t189 == a2) = false := beq_eq_false_iff_ne.mpr c28
                            have c28b1 : (t189 != a2) = true := bne_iff_ne.mpr c28
                            exact absurd H (by simp)
                        · rw [if_neg c27] at H
                          have c27b0 : (t191 == 0) = false := beq_eq_false_iff_ne.mpr c27
                          have c27b1 : (t191 != 0) = true := bne_iff_ne.mpr c27
                          exact absurd H (by simp)
                      · rw [if_neg c25] at H
                        exact absurd H (by simp)
                    · rw [if_neg c24] at H
                      exact absurd H (by simp)
                  · rw [if_neg c23] at H
                    exact absurd H (by simp)
                · rw [if_neg c19] at H
                  exact absurd H (by simp)
              · rw [if_neg c18] at H
                exact absurd H (by simp)
            · rw [if_neg c17] at H
              exact absurd H (by simp)
          · rw [if_neg c16] at H
            exact absurd H (by simp)
        · rw [if_neg c15] at H
          exact absurd H (by simp)
      · rw [if_neg c14] at H
        exact absurd H (by simp)
    · rw [if_neg c11] at H
      exact absurd H (by simp)
  · replace c7 := Bool.eq_false_iff.mpr c7
    subst c7
    have H1 : (none) = some r := by rw [if_neg (show ¬ (false = true) by decide)] at H; exact H
    clear H
    have H := H1
    clear H1
    exact absurd H (by simp)

/-- THE ONE PURE STATEMENT of donatuslaw1_NumBack: yours. -/
def donatuslaw1_NumBack.Pure : Prop := ∀ (l0 : List Int) (l1 : List Int) (a2 : Int) (a3 : ByteArray) (a4 : Int), l0.length ≤ maxLen → l0.length * 1 ≤ 140737488351232 → (∀ x ∈ l0, (Lit.int .u8 x).wf = true) → l1.length ≤ maxLen → l1.length * 1 ≤ 140737488351232 → (∀ x ∈ l1, (Lit.int .u8 x).wf = true) → (Lit.int .i64 a2).wf = true → a3.size ≤ 140737488351232 → (Lit.int .u32 a4).wf = true → ∃ k, donatuslaw1_NumBack.f k l0 l1 a2 a3 a4 = some true
theorem donatuslaw1_NumBack.walk (P : donatuslaw1_NumBack.Pure) (a0 : Option Addr) (len0 cap0 : Nat) (z0 : List Int) (a1 : Option Addr) (len1 cap1 : Nat) (z1 : List Int) (a2 : Int) (a3 : ByteArray) (a4 : Int) (w : World) (w0 : (a0 = none ∧ len0 = 0 ∧ cap0 = 0 ∧ z0 = []) ∨ ∃ x, a0 = some x ∧ len0 ≤ cap0 ∧ cap0 ≤ maxLen ∧ z0.length = cap0 ∧ (∀ i, i < z0.length → w.cell? (x.add i) = some (.int .u8 (z0.getD i 0))) ∧ ∀ n ∈ z0, (Lit.int .u8 n).wf = true) (y0 : len0 * 1 ≤ 140737488351232) (w1 : (a1 = none ∧ len1 = 0 ∧ cap1 = 0 ∧ z1 = []) ∨ ∃ x, a1 = some x ∧ len1 ≤ cap1 ∧ cap1 ≤ maxLen ∧ z1.length = cap1 ∧ (∀ i, i < z1.length → w.cell? (x.add i) = some (.int .u8 (z1.getD i 0))) ∧ ∀ n ∈ z1, (Lit.int .u8 n).wf = true) (y1 : len1 * 1 ≤ 140737488351232) (w2 : (Lit.int .i64 a2).wf = true) (w3 : a3.size ≤ 140737488351232) (w4 : (Lit.int .u32 a4).wf = true) :
    Calls Try.prog 3 #[.slice a0 len0 cap0, .slice a1 len1 cap1, .int .i64 a2, .string a3, .int .u32 a4] w fun e w' => e = .returned (.bool true) ∧ Below w.heap.size w w' := by
  obtain ⟨l0, rfl, hr0, hm0, hw0, hc0⟩ := ReadsInt.ofRowC w0
  obtain ⟨l1, rfl, hr1, hm1, hw1, hc1⟩ := ReadsInt.ofRowC w1
  obtain ⟨k, h⟩ := P l0 l1 a2 a3 a4 hm0 y0 hw0 hm1 y1 hw1 w2 w3 w4
  refine (donatuslaw1_NumBack.calls k _ _ l0 _ _ l1 a2 a3 a4 true w (Kd.C_of_reads (d := (0 : Int)) (h1 := fun _ => rfl) hr0) hc0 (Kd.C_of_reads (d := (0 : Int)) (h1 := fun _ => rfl) hr1) hc1 h).mono ?_
  rintro e w' ⟨rfl, hd⟩
  exact ⟨rfl, hd⟩

end Go.Proofs.Ytjnhlbelpflobaa.PNumBack
