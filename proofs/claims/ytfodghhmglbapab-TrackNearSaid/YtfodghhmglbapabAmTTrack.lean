/- Part of a machine of its own for this claim: the program's code over memory without draws. -/
import Derived.Test.YtfodghhmglbapabAmE
import Derived.Test.YtfodghhmglbapabAmD
import Derived.Test.YtfodghhmglbapabProg
import Derived.KernelRfl
set_option linter.unusedVariables false
set_option linter.unusedSimpArgs false
set_option linter.unusedVariables false
set_option linter.unusedSimpArgs false
namespace Go.AM
open Go Go.Proofs

noncomputable def E0 : TypeId → Bool := eqTy Try.prog
theorem E0_ok : EqOk Try.prog E0 := eqTy_ok
theorem mixed : Try.prog.follows .mixedOrders = true := by kernel_rfl
def inB (i : Int) : Bool := decide (0 ≤ i) && decide (i ≤ 1099511627776)
theorem inB_iff {i : Int} : inB i = true ↔ 0 ≤ i ∧ i ≤ 1099511627776 := by simp [inB]
def mayB (i : Int) : Bool := decide (1 ≤ i) && decide (i ≤ 7)
theorem mayB_iff {i : Int} : mayB i = true ↔ 1 ≤ i ∧ i ≤ 7 := by simp [mayB]
def TInv (g : Nat → Int) : Prop := ∀ j, 1 ≤ j → j ≤ 7 → 0 ≤ g (8 + j) ∧ g (8 + j) < g j ∧ g j ≤ 1099511627777
def TMono (g g' : Nat → Int) : Prop := ∀ j, 1 ≤ j → j ≤ 7 → g (8 + j) ≤ g' (8 + j)
theorem TMono.refl (g : Nat → Int) : TMono g g := fun _ _ _ => Int.le_refl _
/-- Next alone is set. -/
theorem tset_next {g : Nat → Int} {k : Nat} {x : Int} (hI : TInv g) (hk : k ≤ 7) (hx : g (8 + k) < x) (hm : x ≤ 1099511627777) : TInv (upd g k x) ∧ TMono g (upd g k x) := by
  refine ⟨fun j h1 h2 => ?_, fun j h1 h2 => ?_⟩
  · have := hI j h1 h2
    rw [upd_ne _ _ (show 8 + j ≠ k by omega)]
    by_cases h : j = k
    · subst h; rw [upd_self]; omega
    · rw [upd_ne _ _ h]; omega
  · rw [upd_ne _ _ (show 8 + j ≠ k by omega)]; exact Int.le_refl _
theorem tset_both {g : Nat → Int} {k : Nat} {x y : Int} (hI : TInv g) (hk : k ≤ 7) (hx : g (8 + k) ≤ x) (hxy : x < y) (h0 : 0 ≤ x) (hm : y ≤ 1099511627777) : TInv (upd (upd g (8 + k) x) k y) ∧ TMono g (upd (upd g (8 + k) x) k y) := by
  refine ⟨fun j h1 h2 => ?_, fun j h1 h2 => ?_⟩
  · have := hI j h1 h2
    rw [upd_ne _ _ (show 8 + j ≠ k by omega)]
    by_cases h : j = k
    · subst h; rw [upd_self, upd_self]; omega
    · rw [upd_ne _ _ h, upd_ne _ _ (show 8 + j ≠ 8 + k by omega), upd_ne _ _ (show j ≠ 8 + k by omega)]; omega
  · rw [upd_ne _ _ (show 8 + j ≠ k by omega)]
    by_cases h : j = k
    · subst h; rw [upd_self]; exact hx
    · rw [upd_ne _ _ (show 8 + j ≠ 8 + k by omega)]; exact Int.le_refl _
structure TOp where
  kind : Int
  id : Int
  i : Int
def TOp.cells (o : TOp) : List Value := [.int .i64 o.kind, .int .i64 o.id, .int .i64 o.i]
noncomputable def X0 (f : FuncId) : List Tmp := (bif_ (Nat.ble 67 f) (bif_ (Nat.ble 100 f) (bif_ (Nat.ble 117 f) (bif_ (Nat.ble 125 f) (bif_ (Nat.ble 129 f) (bif_ (Nat.ble 131 f) (bif_ (Nat.ble 132 f) (bif_ (Nat.ble 133 f) [0, 1, 2, 3, 8, 9, 18] [0, 2, 3, 4, 5, 6, 7, 14, 18, 25]) [0, 1, 2, 3, 8, 9, 18]) (bif_ (Nat.ble 130 f) [0, 2] [0, 1, 2, 3, 4, 10])) (bif_ (Nat.ble 127 f) (bif_ (Nat.ble 128 f) [0, 1, 2, 6] [0, 1, 2, 3, 8, 9, 16, 36, 52]) (bif_ (Nat.ble 126 f) [0, 1, 2, 6, 8, 9, 10, 11, 12, 22] [0, 2]))) (bif_ (Nat.ble 121 f) (bif_ (Nat.ble 123 f) (bif_ (Nat.ble 124 f) [0, 2, 3, 4, 5, 30] [0, 2, 3, 4, 5, 30]) (bif_ (Nat.ble 122 f) [0, 2, 3, 4, 5, 6, 7, 8, 9, 10, 11, 12, 21, 31, 37, 43] [0, 2])) (bif_ (Nat.ble 119 f) (bif_ (Nat.ble 120 f) [0, 1, 2, 3, 4, 10] [0, 1, 2, 6]) (bif_ (Nat.ble 118 f) [0, 2] [0, 2])))) (bif_ (Nat.ble 108 f) (bif_ (Nat.ble 112 f) (bif_ (Nat.ble 114 f) (bif_ (Nat.ble 115 f) (bif_ (Nat.ble 116 f) [0, 1, 2, 3, 8, 9, 16, 36, 52] [0, 1, 2, 3, 8, 9, 10, 11, 43, 60, 65, 112, 129, 134]) [0, 1, 2, 3, 8, 9, 10, 43, 59, 64]) (bif_ (Nat.ble 113 f) [0, 1, 4] [0, 1, 2, 6, 7, 8, 9, 10, 14, 32, 37, 41, 61, 65, 78, 98, 103, 116])) (bif_ (Nat.ble 110 f) (bif_ (Nat.ble 111 f) [0, 1, 2, 6, 7, 13] [0, 1, 2, 6, 7, 8, 9, 10, 11, 12, 32, 34, 49, 51, 54]) (bif_ (Nat.ble 109 f) [0, 1, 2, 6, 7, 8, 9, 10, 15, 33, 43] [0, 1, 2, 6, 7, 8, 9, 10, 19, 30]))) (bif_ (Nat.ble 104 f) (bif_ (Nat.ble 106 f) (bif_ (Nat.ble 107 f) [0, 1, 2, 6, 7, 12, 30] [0, 1, 4]) (bif_ (Nat.ble 105 f) [0, 1, 2] [0, 1, 2, 4])) (bif_ (Nat.ble 102 f) (bif_ (Nat.ble 103 f) [0, 2, 3, 4, 5, 6, 7, 8, 9, 10, 11, 12, 13, 14, 15, 16, 25, 59, 62, 73, 84] [0, 1, 2, 21]) (bif_ (Nat.ble 101 f) [0, 2, 3, 4, 5, 6, 7, 8, 9, 10, 19, 28, 29, 39, 72] [0, 2, 3, 4, 5]))))) (bif_ (Nat.ble 83 f) (bif_ (Nat.ble 91 f) (bif_ (Nat.ble 95 f) (bif_ (Nat.ble 97 f) (bif_ (Nat.ble 98 f) (bif_ (Nat.ble 99 f) [0, 2, 3, 4, 5, 6, 7, 8, 9, 10, 11, 12, 16, 28, 36, 56, 76] [0, 2]) [0, 2]) (bif_ (Nat.ble 96 f) [0, 1, 4, 5, 7, 10, 11, 12, 13, 20, 21] [0, 1, 2, 3, 4, 8])) (bif_ (Nat.ble 93 f) (bif_ (Nat.ble 94 f) [0, 2, 4, 8, 14] [0, 2, 4, 8]) (bif_ (Nat.ble 92 f) [0, 1, 2, 3, 8, 9, 10, 11, 43, 60, 65, 112, 129, 134] [0, 1, 2, 3, 8, 9, 10, 43, 59, 64]))) (bif_ (Nat.ble 87 f) (bif_ (Nat.ble 89 f) (bif_ (Nat.ble 90 f) [0, 1, 4] [0, 1, 2, 6, 7, 8, 9, 10, 14, 32, 37, 41, 61, 65, 78, 98, 103, 116]) (bif_ (Nat.ble 88 f) [0, 1, 2, 6, 7, 13] [0, 1, 2, 6, 7, 8, 9, 10, 11, 12, 32, 34, 49, 51, 54])) (bif_ (Nat.ble 85 f) (bif_ (Nat.ble 86 f) [0, 1, 2, 6, 7, 8, 9, 10, 15, 33, 43] [0, 1, 2, 6, 7, 8, 9, 10, 19, 30]) (bif_ (Nat.ble 84 f) [0, 1, 2, 6, 7, 12, 30] [0, 1, 4, 5, 7, 8, 9, 16])))) (bif_ (Nat.ble 75 f) (bif_ (Nat.ble 79 f) (bif_ (Nat.ble 81 f) (bif_ (Nat.ble 82 f) [0, 1, 4, 5, 7, 8, 9, 16] [0, 1, 2, 3, 8, 9, 10, 11, 12, 13, 14, 15, 16, 17, 18, 23, 29, 35, 50, 68, 72, 87, 113]) (bif_ (Nat.ble 80 f) [0, 1, 2, 3, 4] [0, 2, 3, 7, 37])) (bif_ (Nat.ble 77 f) (bif_ (Nat.ble 78 f) [0, 1, 4, 8] [0, 1, 4, 5, 7, 8, 9, 16]) (bif_ (Nat.ble 76 f) [0, 1, 2, 3, 4, 5, 6, 9, 28] [0, 1, 2, 3, 4, 6, 12, 13, 14, 15, 41]))) (bif_ (Nat.ble 71 f) (bif_ (Nat.ble 73 f) (bif_ (Nat.ble 74 f) [0, 1, 4, 6, 7, 8, 9, 10, 19] [0, 2]) (bif_ (Nat.ble 72 f) [0, 1, 4] [0, 2, 3, 4, 5, 6, 7, 8, 9, 10, 50, 82])) (bif_ (Nat.ble 69 f) (bif_ (Nat.ble 70 f) [0, 2, 3, 4, 5, 6, 7, 8, 9, 13, 24] [0, 1, 4, 5, 10, 14]) (bif_ (Nat.ble 68 f) [0, 1, 4, 5, 6, 17] [0, 1, 2, 3, 4, 6, 8, 10, 29, 30, 31, 32, 40, 41, 42, 43, 54])))))) (bif_ (Nat.ble 33 f) (bif_ (Nat.ble 50 f) (bif_ (Nat.ble 58 f) (bif_ (Nat.ble 62 f) (bif_ (Nat.ble 64 f) (bif_ (Nat.ble 65 f) (bif_ (Nat.ble 66 f) [0, 2, 4] [0, 2]) [0, 1, 2, 3, 8, 9, 10, 11, 12, 13, 14, 15, 16, 17, 18, 23, 29, 35, 50, 68, 72, 87, 113]) (bif_ (Nat.ble 63 f) [0, 1, 4] [0, 1, 3])) (bif_ (Nat.ble 60 f) (bif_ (Nat.ble 61 f) [0, 1, 4, 5, 6, 7, 12, 19, 29] [0, 2]) (bif_ (Nat.ble 59 f) [0, 2, 4] [0, 1, 4, 5, 10, 14, 26]))) (bif_ (Nat.ble 54 f) (bif_ (Nat.ble 56 f) (bif_ (Nat.ble 57 f) [0, 1, 2] [0, 2, 3, 4, 5, 9, 22]) (bif_ (Nat.ble 55 f) [0, 1, 2, 3, 4] [0, 1, 2])) (bif_ (Nat.ble 52 f) (bif_ (Nat.ble 53 f) [0, 2] [0, 2]) (bif_ (Nat.ble 51 f) [0, 1, 2] [0, 1, 4, 5, 6, 7, 16])))) (bif_ (Nat.ble 41 f) (bif_ (Nat.ble 45 f) (bif_ (Nat.ble 47 f) (bif_ (Nat.ble 48 f) (bif_ (Nat.ble 49 f) [0, 1, 2, 3] [0, 1, 4, 5, 6, 7, 12, 19, 29]) [0, 1, 2, 6, 7, 16]) (bif_ (Nat.ble 46 f) [0, 1, 2, 4, 47, 59, 62] [0, 2, 3, 4, 6, 7, 8, 9, 10, 11, 17, 18, 19, 20, 25, 51])) (bif_ (Nat.ble 43 f) (bif_ (Nat.ble 44 f) [0, 1, 2, 3, 4, 5, 8, 17] [0, 1, 2]) (bif_ (Nat.ble 42 f) [0, 2] [0, 1, 4, 5, 6, 8, 17]))) (bif_ (Nat.ble 37 f) (bif_ (Nat.ble 39 f) (bif_ (Nat.ble 40 f) [0, 2, 3, 5, 8, 9, 10, 11, 12] [0, 1, 4, 5, 10, 14, 25]) (bif_ (Nat.ble 38 f) [0, 2, 3, 4, 5, 7, 8, 9, 22] [0, 2])) (bif_ (Nat.ble 35 f) (bif_ (Nat.ble 36 f) [0, 1, 4] [0, 1, 4]) (bif_ (Nat.ble 34 f) [0, 1, 3, 4, 5, 6, 24] [0, 1, 4, 5, 6, 21]))))) (bif_ (Nat.ble 16 f) (bif_ (Nat.ble 24 f) (bif_ (Nat.ble 28 f) (bif_ (Nat.ble 30 f) (bif_ (Nat.ble 31 f) (bif_ (Nat.ble 32 f) [0, 1, 2, 3, 4] [0, 1, 2, 3, 4, 5, 7, 61, 84, 91, 124, 129]) [0, 1, 2]) (bif_ (Nat.ble 29 f) [0] [0, 1, 3, 4, 5, 9])) (bif_ (Nat.ble 26 f) (bif_ (Nat.ble 27 f) [0, 1, 4, 12] [0, 2, 4]) (bif_ (Nat.ble 25 f) [0, 1, 3, 4, 19] [0, 1, 2, 3, 4, 6]))) (bif_ (Nat.ble 20 f) (bif_ (Nat.ble 22 f) (bif_ (Nat.ble 23 f) [0, 1, 4, 5, 13] [0, 1, 4, 5, 6, 7]) (bif_ (Nat.ble 21 f) [0, 1, 4, 5, 7, 8, 9, 10, 11, 16] [0, 1, 4, 5, 7, 8, 11, 12, 13, 14, 15, 21])) (bif_ (Nat.ble 18 f) (bif_ (Nat.ble 19 f) [0, 2, 3, 4, 5, 6, 7, 8, 30] [0, 2, 3, 4, 6, 14]) (bif_ (Nat.ble 17 f) [0, 1, 2, 3, 4] [0, 2, 3, 4, 7, 10, 11])))) (bif_ (Nat.ble 8 f) (bif_ (Nat.ble 12 f) (bif_ (Nat.ble 14 f) (bif_ (Nat.ble 15 f) [0, 1, 2, 3, 8, 9, 11, 18] [0, 1, 2, 6, 7, 16]) (bif_ (Nat.ble 13 f) [0, 1, 2, 6, 7, 16] [0, 1, 4, 8])) (bif_ (Nat.ble 10 f) (bif_ (Nat.ble 11 f) [0, 1, 4, 8] [0, 1, 2, 3, 6]) (bif_ (Nat.ble 9 f) [0, 1, 2, 12] [0, 1, 2, 3, 8, 9, 10, 11, 12, 13, 14, 15, 18, 32, 44, 59, 63, 87]))) (bif_ (Nat.ble 4 f) (bif_ (Nat.ble 6 f) (bif_ (Nat.ble 7 f) [0, 2, 3, 4, 5, 6, 7, 8, 9, 10, 11, 12, 13, 14, 15, 18, 27, 48, 52, 62, 79, 81, 88, 90, 95, 110, 138, 139, 157, 162, 169, 170, 222] [0, 1, 3, 5]) (bif_ (Nat.ble 5 f) [0, 1, 4, 5, 6, 7, 8, 9, 10, 11, 14, 24, 31, 40, 50, 60] [0, 1, 4, 5, 6, 7, 8, 9, 10, 13, 19, 29, 37, 44, 52, 61, 79])) (bif_ (Nat.ble 2 f) (bif_ (Nat.ble 3 f) [0, 1] []) []))))))
theorem begun_ran : okF (runF Try.prog X0 1000 40 10 [] Hp.nil) = true := by kernel_rfl
theorem begun_spec (H : Heap) : ∃ v H', Spec Try.prog 10 [] H v H' ∧ v = .bool true ∧ H' = H := ⟨_, _, okF_any mixed begun_ran H, rfl, rfl⟩

theorem arr31 : arrIs Try.prog 31 8 = true := by kernel_rfl
theorem el29 : elemIs Try.prog 29 3 = true := by kernel_rfl
theorem ent10 : enters Try.prog 10 = true := by kernel_rfl
theorem ent11 : enters Try.prog 11 = true := by kernel_rfl
theorem ent12 : enters Try.prog 12 = true := by kernel_rfl
theorem ent13 : enters Try.prog 13 = true := by kernel_rfl
theorem ent14 : enters Try.prog 14 = true := by kernel_rfl
theorem ent16 : enters Try.prog 16 = true := by kernel_rfl
theorem ent36 : enters Try.prog 36 = true := by kernel_rfl
theorem ent37 : enters Try.prog 37 = true := by kernel_rfl
theorem ent9 : enters Try.prog 9 = true := by kernel_rfl
theorem fa33_0 : fieldIs Try.prog 33 0 0 = true := by kernel_rfl
theorem fa33_1 : fieldIs Try.prog 33 1 1 = true := by kernel_rfl
theorem fa33_2 : fieldIs Try.prog 33 2 2 = true := by kernel_rfl
theorem fa67_0 : fieldIs Try.prog 67 0 0 = true := by kernel_rfl
theorem fa67_1 : fieldIs Try.prog 67 1 8 = true := by kernel_rfl
theorem many33 : manyB Try.prog 33 3 = true := by kernel_rfl
theorem one2 : oneB Try.prog 2 = true := by kernel_rfl
theorem one3 : oneB Try.prog 3 = true := by kernel_rfl
theorem pl67 : placesOf Try.prog 67 = some [(0, 8), (8, 8)] := by kernel_rfl
theorem size2 : sizeIs Try.prog 2 1 = true := by kernel_rfl
theorem size33 : sizeIs Try.prog 33 3 = true := by kernel_rfl
theorem zero31 : ZeroIs Try.prog 31 [.int .i64 0, .int .i64 0, .int .i64 0, .int .i64 0, .int .i64 0, .int .i64 0, .int .i64 0, .int .i64 0] := ⟨.agg #[.int .i64 0, .int .i64 0, .int .i64 0, .int .i64 0, .int .i64 0, .int .i64 0, .int .i64 0, .int .i64 0], by kernel_rfl, rfl, rfl, rfl⟩
theorem zero33 : ZeroIs Try.prog 33 [.int .i64 0, .int .i64 0, .int .i64 0] := ⟨.agg #[.int .i64 0, .int .i64 0, .int .i64 0], by kernel_rfl, rfl, rfl, rfl⟩
theorem zero67 : ZeroIs Try.prog 67 [.int .i64 0, .int .i64 0, .int .i64 0, .int .i64 0, .int .i64 0, .int .i64 0, .int .i64 0, .int .i64 0, .int .i64 0, .int .i64 0, .int .i64 0, .int .i64 0, .int .i64 0, .int .i64 0, .int .i64 0, .int .i64 0] := ⟨.agg #[.int .i64 0, .int .i64 0, .int .i64 0, .int .i64 0, .int .i64 0, .int .i64 0, .int .i64 0, .int .i64 0, .int .i64 0, .int .i64 0, .int .i64 0, .int .i64 0, .int .i64 0, .int .i64 0, .int .i64 0, .int .i64 0], by kernel_rfl, rfl, rfl, rfl⟩
theorem in_spec (H : Heap) (n : Int) : ∃ v H', Spec Try.prog 37 [.int .i64 n] H v H' ∧ (v = .bool (inB n) ∧ H' = H) := by
  refine spec_go1 E0_ok 9 (f := 37) Try.func37 rfl rfl rfl ?_
  refine aw_seq ?_
  refine aw_reg ?_
  refine st_op (ev_assign rfl) rfl rfl rfl ?_
  try show aw _ _ _ _ _ _
  refine aw_seq ?_
  refine aw_reg ?_
  refine st_op (ev_move rfl) rfl rfl rfl ?_
  refine st_op (ev_int rfl rfl rfl) rfl rfl rfl ?_
  refine st_op (ev_move rfl) rfl rfl rfl ?_
  refine st_bool 5 rfl (fun hb1 => ?_) (fun hb1 => ?_)
  ·
    have hb1 := of_decide_eq_true hb1
    refine st_op (ev_move rfl) rfl rfl rfl ?_
    refine st_op (ev_int rfl rfl rfl) rfl rfl rfl ?_
    refine st_op (ev_pickT rfl rfl) rfl rfl rfl ?_
    refine st_op (ev_assign rfl) rfl rfl rfl ?_
    try show aw _ _ _ _ _ _
    refine aw_ret ?_
    exact ⟨_, rfl, by first | (simp_all [inB, oneOrAll]; done) | (simp_all [inB, oneOrAll]; omega), rfl⟩
  ·
    have hb1 := of_decide_eq_false hb1
    refine st_skip rfl rfl rfl ?_
    refine st_skip rfl rfl rfl ?_
    refine st_op (ev_pickF rfl rfl) rfl rfl rfl ?_
    refine st_op (ev_assign rfl) rfl rfl rfl ?_
    try show aw _ _ _ _ _ _
    refine aw_ret ?_
    exact ⟨_, rfl, by first | (simp_all [inB, oneOrAll]; done) | (simp_all [inB, oneOrAll]; omega), rfl⟩
theorem may_spec (H : Heap) (p : Nat) (n : Int) : ∃ v H', Spec Try.prog 36 [.pointer (some ⟨p, 0, none⟩), .int .i64 n] H v H' ∧ (v = .bool (mayB n) ∧ H' = H) := by
  refine spec_go2 E0_ok 15 (f := 36) Try.func36 rfl rfl rfl ?_
  refine aw_seq ?_
  refine aw_reg ?_
  refine st_op (ev_assign rfl) rfl rfl rfl ?_
  try show aw _ _ _ _ _ _
  refine aw_seq ?_
  refine aw_reg ?_
  refine st_op (ev_move rfl) rfl rfl rfl ?_
  refine st_op (ev_nilNe rfl rfl Try.underlying22) rfl rfl rfl ?_
  refine st_op (ev_move rfl) rfl rfl rfl ?_
  refine st_op (ev_move rfl) rfl rfl rfl ?_
  refine st_op (ev_int rfl rfl rfl) rfl rfl rfl ?_
  refine st_op (ev_pickT rfl rfl) rfl rfl rfl ?_
  refine st_op (ev_move rfl) rfl rfl rfl ?_
  refine st_bool 11 rfl (fun hb1 => ?_) (fun hb1 => ?_)
  ·
    have hb1 := of_decide_eq_true hb1
    refine st_op (ev_move rfl) rfl rfl rfl ?_
    refine st_op (ev_int rfl rfl rfl) rfl rfl rfl ?_
    refine st_op (ev_pickT rfl rfl) rfl rfl rfl ?_
    refine st_op (ev_assign rfl) rfl rfl rfl ?_
    try show aw _ _ _ _ _ _
    refine aw_ret ?_
    exact ⟨_, rfl, by first | (simp_all [mayB, oneOrAll]; done) | (simp_all [mayB, oneOrAll]; omega), rfl⟩
  ·
    have hb1 := of_decide_eq_false hb1
    refine st_skip rfl rfl rfl ?_
    refine st_skip rfl rfl rfl ?_
    refine st_op (ev_pickF rfl rfl) rfl rfl rfl ?_
    refine st_op (ev_assign rfl) rfl rfl rfl ?_
    try show aw _ _ _ _ _ _
    refine aw_ret ?_
    exact ⟨_, rfl, by first | (simp_all [mayB, oneOrAll]; done) | (simp_all [mayB, oneOrAll]; omega), rfl⟩
theorem next_spec (H : Heap) (p : Nat) (g : Nat → Int) (n : Nat) (hB : H.blk p = some ⟨Cells 16 g, 16, false, false⟩) (hI : TInv g) (h1 : 1 ≤ n) (h2 : n ≤ 7) : ∃ v H', Spec Try.prog 11 [.pointer (some ⟨p, 0, none⟩), .int .i64 (n : Int)] H v H' ∧ (v = .int .i64 (g (n)) ∧ H' = H) := by
  refine spec_go2 E0_ok 15 (f := 11) Try.func11 rfl rfl rfl ?_
  refine aw_seq ?_
  refine aw_reg ?_
  refine st_op (ev_assign rfl) rfl rfl rfl ?_
  try show aw _ _ _ _ _ _
  refine aw_seq ?_
  refine aw_seq ?_
  refine aw_reg ?_
  refine st_op (ev_move rfl) rfl rfl rfl ?_
  refine st_op (ev_move rfl) rfl rfl rfl ?_
  refine st_call rfl rfl rfl ent36 rfl rfl rfl ?_
  obtain ⟨_, _, hs1, hs1v, hs1h⟩ := may_spec H p (n : Int)
  rw [hs1v, hs1h] at hs1; clear hs1v hs1h
  refine ⟨_, _, hs1, ?_⟩
  refine st_op (ev_not rfl) rfl rfl rfl ?_
  try show aw _ _ _ _ _ _
  refine aw_cond (t := !(mayB (n : Int))) rfl ?_
  by_cases hc2 : (!(mayB (n : Int))) = true
  · rw [hc2]
    rw [if_pos rfl]
    have hc2 : (mayB (n : Int)) = false := by simpa using hc2
    refine aw_seq ?_
    refine aw_reg ?_
    refine st_op (ev_assign rfl) rfl rfl rfl ?_
    try show aw _ _ _ _ _ _
    refine aw_ret ?_
    exact ⟨_, rfl, by first | rfl | (exfalso; simp_all [mayB]; omega), rfl⟩
  · rw [Bool.not_eq_true] at hc2; rw [hc2]
    rw [if_neg Bool.false_ne_true]
    have hc2 : (mayB (n : Int)) = true := by simpa using hc2
    have hc2 := mayB_iff.1 hc2
    refine aw_skip ?_
    try show aw _ _ _ _ _ _
    refine aw_seq ?_
    refine aw_reg ?_
    refine st_op (ev_move rfl) rfl rfl rfl ?_
    refine st_op (ev_move rfl) rfl rfl rfl ?_
    refine st_op (ev_nilCheck rfl) rfl rfl rfl ?_
    refine st_op (ev_fieldAddr rfl fa67_0 (o' := 0) rfl) rfl rfl rfl ?_
    have hi3 : 0 ≤ (n : Int) := by omega
    have hi4 : (n : Int) < ((8 : Nat) : Int) := by omega
    refine st_op (ev_indexArr rfl rfl hi3 hi4 arr31 (o' := n) (by omega)) rfl rfl rfl ?_
    have hT5 := hI n (by omega) (by omega)
    have hl6 := lvar_cells one2 hB (k := n) (by omega)
    refine st_op (ev_load rfl hl6) rfl rfl rfl ?_
    refine st_op (ev_assign rfl) rfl rfl rfl ?_
    try show aw _ _ _ _ _ _
    refine aw_ret ?_
    exact ⟨_, rfl, by first | rfl | (exfalso; simp_all [mayB]; omega), rfl⟩
theorem match_spec (H : Heap) (p : Nat) (g : Nat → Int) (n : Nat) (hB : H.blk p = some ⟨Cells 16 g, 16, false, false⟩) (hI : TInv g) (h1 : 1 ≤ n) (h2 : n ≤ 7) : ∃ v H', Spec Try.prog 12 [.pointer (some ⟨p, 0, none⟩), .int .i64 (n : Int)] H v H' ∧ (v = .int .i64 (g (8 + n)) ∧ H' = H) := by
  refine spec_go2 E0_ok 15 (f := 12) Try.func12 rfl rfl rfl ?_
  refine aw_seq ?_
  refine aw_reg ?_
  refine st_op (ev_assign rfl) rfl rfl rfl ?_
  try show aw _ _ _ _ _ _
  refine aw_seq ?_
  refine aw_seq ?_
  refine aw_reg ?_
  refine st_op (ev_move rfl) rfl rfl rfl ?_
  refine st_op (ev_move rfl) rfl rfl rfl ?_
  refine st_call rfl rfl rfl ent36 rfl rfl rfl ?_
  obtain ⟨_, _, hs1, hs1v, hs1h⟩ := may_spec H p (n : Int)
  rw [hs1v, hs1h] at hs1; clear hs1v hs1h
  refine ⟨_, _, hs1, ?_⟩
  refine st_op (ev_not rfl) rfl rfl rfl ?_
  try show aw _ _ _ _ _ _
  refine aw_cond (t := !(mayB (n : Int))) rfl ?_
  by_cases hc2 : (!(mayB (n : Int))) = true
  · rw [hc2]
    rw [if_pos rfl]
    have hc2 : (mayB (n : Int)) = false := by simpa using hc2
    refine aw_seq ?_
    refine aw_reg ?_
    refine st_op (ev_assign rfl) rfl rfl rfl ?_
    try show aw _ _ _ _ _ _
    refine aw_ret ?_
    exact ⟨_, rfl, by first | rfl | (exfalso; simp_all [mayB]; omega), rfl⟩
  · rw [Bool.not_eq_true] at hc2; rw [hc2]
    rw [if_neg Bool.false_ne_true]
    have hc2 : (mayB (n : Int)) = true := by simpa using hc2
    have hc2 := mayB_iff.1 hc2
    refine aw_skip ?_
    try show aw _ _ _ _ _ _
    refine aw_seq ?_
    refine aw_reg ?_
    refine st_op (ev_move rfl) rfl rfl rfl ?_
    refine st_op (ev_move rfl) rfl rfl rfl ?_
    refine st_op (ev_nilCheck rfl) rfl rfl rfl ?_
    refine st_op (ev_fieldAddr rfl fa67_1 (o' := 8) rfl) rfl rfl rfl ?_
    have hi3 : 0 ≤ (n : Int) := by omega
    have hi4 : (n : Int) < ((8 : Nat) : Int) := by omega
    refine st_op (ev_indexArr rfl rfl hi3 hi4 arr31 (o' := 8 + n) (by omega)) rfl rfl rfl ?_
    have hT5 := hI n (by omega) (by omega)
    have hl6 := lvar_cells one2 hB (k := 8 + n) (by omega)
    refine st_op (ev_load rfl hl6) rfl rfl rfl ?_
    refine st_op (ev_assign rfl) rfl rfl rfl ?_
    try show aw _ _ _ _ _ _
    refine aw_ret ?_
    exact ⟨_, rfl, by first | rfl | (exfalso; simp_all [mayB]; omega), rfl⟩
theorem sent_spec (H : Heap) (p : Nat) (g : Nat → Int) (n i : Int) (hB : H.blk p = some ⟨Cells 16 g, 16, false, false⟩) (hp : p < H.next) (hI : TInv g) : ∃ v H', Spec Try.prog 9 [.pointer (some ⟨p, 0, none⟩), .int .i64 n, .int .i64 i] H v H' ∧ (Ext1 p H H' ∧ ∃ g', H'.blk p = some ⟨Cells 16 g', 16, false, false⟩ ∧ TInv g' ∧ TMono g g') := by
  refine spec_go3 E0_ok 27 (f := 9) Try.func9 rfl rfl rfl ?_
  refine aw_seq ?_
  refine aw_reg ?_
  refine st_op (ev_move rfl) rfl rfl rfl ?_
  refine st_op (ev_move rfl) rfl rfl rfl ?_
  refine st_call rfl rfl rfl ent36 rfl rfl rfl ?_
  obtain ⟨_, _, hs1, hs1v, hs1h⟩ := may_spec H p n
  rw [hs1v, hs1h] at hs1; clear hs1v hs1h
  refine ⟨_, _, hs1, ?_⟩
  refine st_op (ev_move rfl) rfl rfl rfl ?_
  refine st_bool 9 rfl (fun hb2 => ?_) (fun hb2 => ?_)
  ·
    have hb2 := mayB_iff.1 hb2
    refine st_op (ev_move rfl) rfl rfl rfl ?_
    refine st_call rfl rfl rfl ent37 rfl rfl rfl ?_
    obtain ⟨_, _, hs3, hs3v, hs3h⟩ := in_spec H i
    rw [hs3v, hs3h] at hs3; clear hs3v hs3h
    refine ⟨_, _, hs3, ?_⟩
    refine st_op (ev_pickT rfl rfl) rfl rfl rfl ?_
    try show aw _ _ _ _ _ _
    refine aw_cond (t := inB i) rfl ?_
    by_cases hc4 : (inB i) = true
    · rw [hc4]
      rw [if_pos rfl]
      have hc4 := inB_iff.1 hc4
      refine aw_marks (fun b => b < H.next) [(false, false), (false, false), (false, false), (false, false), (false, false), (false, false), (false, false), (false, false), (false, false), (false, false), (false, false), (false, false), (false, false), (false, false), (false, false)] mixed (by kernel_rfl) (by kernel_rfl) ?_
      refine sm_op (ev_move rfl) rfl rfl rfl ?_
      refine sm_op (ev_move rfl) rfl rfl rfl ?_
      refine sm_op (ev_move rfl) rfl rfl rfl ?_
      refine sm_op (ev_move rfl) rfl rfl rfl ?_
      refine sm_op (ev_nilCheck rfl) rfl rfl rfl ?_
      refine sm_op (ev_fieldAddr rfl fa67_0 (o' := 0) rfl) rfl rfl rfl ?_
      have hi5 : 0 ≤ n := by omega
      have hi6 : n < ((8 : Nat) : Int) := by omega
      refine sm_op (ev_indexArr rfl rfl hi5 hi6 arr31 (o' := (n).toNat) (by omega)) rfl rfl rfl ?_
      have hT7 := hI ((n).toNat) (by omega) (by omega)
      have hl8 := lvar_cells one2 hB (k := (n).toNat) (by omega)
      refine sm_op (ev_load rfl hl8) rfl rfl rfl ?_
      refine sm_op (ev_move rfl) rfl rfl rfl ?_
      refine sm_op (ev_int64 (c := i + 1) rfl rfl rfl (by omega) (by omega)) rfl rfl rfl ?_
      obtain ⟨z9, hz10, hz11⟩ : ∃ z, (if (g ((n).toNat)) < i + 1 then i + 1 else (g ((n).toNat))) = z ∧ ((g ((n).toNat)) ≤ z ∧ i + 1 ≤ z ∧ (z = (g ((n).toNat)) ∨ z = i + 1)) := ⟨_, rfl, by split <;> omega⟩
      refine sm_op (ev_maxE hz10 rfl rfl) rfl rfl rfl ?_
      refine sm_op (ev_nilCheck rfl) rfl rfl rfl ?_
      refine sm_op (ev_fieldAddr rfl fa67_0 (o' := 0) rfl) rfl rfl rfl ?_
      have hi12 : 0 ≤ n := by omega
      have hi13 : n < ((8 : Nat) : Int) := by omega
      refine sm_op (ev_indexArr rfl rfl hi12 hi13 arr31 (o' := (n).toNat) (by omega)) rfl rfl rfl ?_
      obtain ⟨H14, he15, H14n, hB16, f17⟩ := mem_storeC (x := z9) (k := (n).toNat) size2 hB (by omega)
      refine sm_op0 (he15 _ _ _ _ _ _ _ _ _ rfl rfl) rfl rfl ?_
      have hx18 : Ext1 p H H14 := Ext1.step (Ext.one (Ext.refl H) p) (b := p) (.inr rfl) (by omega) f17
      try show aw _ _ _ _ _ _
      have hTn := hI n.toNat (by omega) (by omega)
      exact ⟨_, rfl, hx18, _, hB16, tset_next hI (by omega) (by omega) (by omega)⟩
    · rw [Bool.not_eq_true] at hc4; rw [hc4]
      rw [if_neg Bool.false_ne_true]
      refine aw_skip ?_
      try show aw _ _ _ _ _ _
      exact ⟨_, rfl, Ext1.refl p _, g, hB, hI, TMono.refl g⟩
  ·
    refine st_skip rfl rfl rfl ?_
    refine st_skip rfl rfl rfl ?_
    refine st_op (ev_pickF rfl rfl) rfl rfl rfl ?_
    try show aw _ _ _ _ _ _
    refine aw_cond (t := false) rfl ?_
    try show aw _ _ _ _ _ _
    refine aw_skip ?_
    try show aw _ _ _ _ _ _
    exact ⟨_, rfl, Ext1.refl p _, g, hB, hI, TMono.refl g⟩
theorem yes_spec (H : Heap) (p : Nat) (g : Nat → Int) (n i : Int) (hB : H.blk p = some ⟨Cells 16 g, 16, false, false⟩) (hp : p < H.next) (hI : TInv g) : ∃ v H', Spec Try.prog 13 [.pointer (some ⟨p, 0, none⟩), .int .i64 n, .int .i64 i] H v H' ∧ (Ext1 p H H' ∧ ∃ g', H'.blk p = some ⟨Cells 16 g', 16, false, false⟩ ∧ TInv g' ∧ TMono g g') := by
  refine spec_go3 E0_ok 58 (f := 13) Try.func13 rfl rfl rfl ?_
  refine aw_seq ?_
  refine aw_reg ?_
  refine st_op (ev_assign rfl) rfl rfl rfl ?_
  try show aw _ _ _ _ _ _
  refine aw_seq ?_
  refine aw_seq ?_
  refine aw_reg ?_
  refine st_op (ev_move rfl) rfl rfl rfl ?_
  refine st_op (ev_move rfl) rfl rfl rfl ?_
  refine st_call rfl rfl rfl ent36 rfl rfl rfl ?_
  obtain ⟨_, _, hs1, hs1v, hs1h⟩ := may_spec H p n
  rw [hs1v, hs1h] at hs1; clear hs1v hs1h
  refine ⟨_, _, hs1, ?_⟩
  refine st_op (ev_not rfl) rfl rfl rfl ?_
  refine st_op (ev_move rfl) rfl rfl rfl ?_
  refine st_bool 12 rfl (fun hb2 => ?_) (fun hb2 => ?_)
  ·
    have hb2 : (mayB n) = false := by simpa using hb2
    refine st_skip rfl rfl rfl ?_
    refine st_skip rfl rfl rfl ?_
    refine st_skip rfl rfl rfl ?_
    refine st_op (ev_pickT rfl rfl) rfl rfl rfl ?_
    try show aw _ _ _ _ _ _
    refine aw_cond (t := true) rfl ?_
    try show aw _ _ _ _ _ _
    refine aw_seq ?_
    refine aw_reg ?_
    refine st_op (ev_assign rfl) rfl rfl rfl ?_
    try show aw _ _ _ _ _ _
    refine aw_ret ?_
    exact ⟨_, rfl, Ext1.refl p _, g, hB, hI, TMono.refl g⟩
  ·
    have hb2 : (mayB n) = true := by simpa using hb2
    have hb2 := mayB_iff.1 hb2
    refine st_op (ev_move rfl) rfl rfl rfl ?_
    refine st_call rfl rfl rfl ent37 rfl rfl rfl ?_
    obtain ⟨_, _, hs3, hs3v, hs3h⟩ := in_spec H i
    rw [hs3v, hs3h] at hs3; clear hs3v hs3h
    refine ⟨_, _, hs3, ?_⟩
    refine st_op (ev_not rfl) rfl rfl rfl ?_
    refine st_op (ev_pickF rfl rfl) rfl rfl rfl ?_
    try show aw _ _ _ _ _ _
    refine aw_cond (t := !(inB i)) rfl ?_
    by_cases hc4 : (!(inB i)) = true
    · rw [hc4]
      rw [if_pos rfl]
      have hc4 : (inB i) = false := by simpa using hc4
      refine aw_seq ?_
      refine aw_reg ?_
      refine st_op (ev_assign rfl) rfl rfl rfl ?_
      try show aw _ _ _ _ _ _
      refine aw_ret ?_
      exact ⟨_, rfl, Ext1.refl p _, g, hB, hI, TMono.refl g⟩
    · rw [Bool.not_eq_true] at hc4; rw [hc4]
      rw [if_neg Bool.false_ne_true]
      have hc4 : (inB i) = true := by simpa using hc4
      have hc4 := inB_iff.1 hc4
      refine aw_skip ?_
      try show aw _ _ _ _ _ _
      refine aw_seq ?_
      refine aw_reg ?_
      refine st_op (ev_move rfl) rfl rfl rfl ?_
      refine st_op (ev_move rfl) rfl rfl rfl ?_
      refine st_op (ev_move rfl) rfl rfl rfl ?_
      refine st_op (ev_nilCheck rfl) rfl rfl rfl ?_
      refine st_op (ev_fieldAddr rfl fa67_1 (o' := 8) rfl) rfl rfl rfl ?_
      have hi5 : 0 ≤ n := by omega
      have hi6 : n < ((8 : Nat) : Int) := by omega
      refine st_op (ev_indexArr rfl rfl hi5 hi6 arr31 (o' := 8 + (n).toNat) (by omega)) rfl rfl rfl ?_
      have hT7 := hI ((n).toNat) (by omega) (by omega)
      have hl8 := lvar_cells one2 hB (k := 8 + (n).toNat) (by omega)
      refine st_op (ev_load rfl hl8) rfl rfl rfl ?_
      refine st_op (ev_int rfl rfl rfl) rfl rfl rfl ?_
      refine st_op (ev_assign rfl) rfl rfl rfl ?_
      try show aw _ _ _ _ _ _
      refine aw_seq ?_
      refine aw_marks (fun b => b < H.next) [(false, false), (false, false), (false, false), (false, false), (false, false), (false, false), (false, false), (false, false), (false, false), (false, false), (false, false), (false, false), (false, false), (false, false)] mixed (by kernel_rfl) (by kernel_rfl) ?_
      refine sm_op (ev_move rfl) rfl rfl rfl ?_
      refine sm_op (ev_move rfl) rfl rfl rfl ?_
      refine sm_op (ev_move rfl) rfl rfl rfl ?_
      refine sm_op (ev_move rfl) rfl rfl rfl ?_
      refine sm_op (ev_nilCheck rfl) rfl rfl rfl ?_
      refine sm_op (ev_fieldAddr rfl fa67_1 (o' := 8) rfl) rfl rfl rfl ?_
      have hi9 : 0 ≤ n := by omega
      have hi10 : n < ((8 : Nat) : Int) := by omega
      refine sm_op (ev_indexArr rfl rfl hi9 hi10 arr31 (o' := 8 + (n).toNat) (by omega)) rfl rfl rfl ?_
      have hT11 := hI ((n).toNat) (by omega) (by omega)
      have hl12 := lvar_cells one2 hB (k := 8 + (n).toNat) (by omega)
      refine sm_op (ev_load rfl hl12) rfl rfl rfl ?_
      refine sm_op (ev_move rfl) rfl rfl rfl ?_
      obtain ⟨z13, hz14, hz15⟩ : ∃ z, (if (g (8 + (n).toNat)) < i then i else (g (8 + (n).toNat))) = z ∧ ((g (8 + (n).toNat)) ≤ z ∧ i ≤ z ∧ (z = (g (8 + (n).toNat)) ∨ z = i)) := ⟨_, rfl, by split <;> omega⟩
      refine sm_op (ev_maxE hz14 rfl rfl) rfl rfl rfl ?_
      refine sm_op (ev_nilCheck rfl) rfl rfl rfl ?_
      refine sm_op (ev_fieldAddr rfl fa67_1 (o' := 8) rfl) rfl rfl rfl ?_
      have hi16 : 0 ≤ n := by omega
      have hi17 : n < ((8 : Nat) : Int) := by omega
      refine sm_op (ev_indexArr rfl rfl hi16 hi17 arr31 (o' := 8 + (n).toNat) (by omega)) rfl rfl rfl ?_
      obtain ⟨H18, he19, H18n, hB20, f21⟩ := mem_storeC (x := z13) (k := 8 + (n).toNat) size2 hB (by omega)
      refine sm_op0 (he19 _ _ _ _ _ _ _ _ _ rfl rfl) rfl rfl ?_
      have hx22 : Ext1 p H H18 := Ext1.step (Ext.one (Ext.refl H) p) (b := p) (.inr rfl) (by omega) f21
      try show aw _ _ _ _ _ _
      refine aw_seq ?_
      refine aw_marks (fun b => b < H18.next) [(false, false), (false, false), (false, false), (false, false), (false, false), (false, false), (false, false), (false, false), (false, false), (false, false), (false, false), (false, false), (false, false), (false, false), (false, false), (false, false), (false, false), (false, false), (false, false), (false, false)] mixed (by kernel_rfl) (by kernel_rfl) ?_
      refine sm_op (ev_move rfl) rfl rfl rfl ?_
      refine sm_op (ev_move rfl) rfl rfl rfl ?_
      refine sm_op (ev_move rfl) rfl rfl rfl ?_
      refine sm_op (ev_move rfl) rfl rfl rfl ?_
      refine sm_op (ev_nilCheck rfl) rfl rfl rfl ?_
      refine sm_op (ev_fieldAddr rfl fa67_0 (o' := 0) rfl) rfl rfl rfl ?_
      have hi23 : 0 ≤ n := by omega
      have hi24 : n < ((8 : Nat) : Int) := by omega
      refine sm_op (ev_indexArr rfl rfl hi23 hi24 arr31 (o' := (n).toNat) (by omega)) rfl rfl rfl ?_
      have hT25 := hI ((n).toNat) (by omega) (by omega)
      have hl26 := lvar_cells one2 hB20 (k := (n).toNat) (by omega)
      rw [upd_ne _ _ (by omega)] at hl26
      refine sm_op (ev_load rfl hl26) rfl rfl rfl ?_
      refine sm_op (ev_move rfl) rfl rfl rfl ?_
      refine sm_op (ev_move rfl) rfl rfl rfl ?_
      refine sm_op (ev_nilCheck rfl) rfl rfl rfl ?_
      refine sm_op (ev_fieldAddr rfl fa67_1 (o' := 8) rfl) rfl rfl rfl ?_
      have hi27 : 0 ≤ n := by omega
      have hi28 : n < ((8 : Nat) : Int) := by omega
      refine sm_op (ev_indexArr rfl rfl hi27 hi28 arr31 (o' := 8 + (n).toNat) (by omega)) rfl rfl rfl ?_
      have hl29 := lvar_cells one2 hB20 (k := 8 + (n).toNat) (by omega)
      rw [upd_self] at hl29
      refine sm_op (ev_load rfl hl29) rfl rfl rfl ?_
      refine sm_op (ev_int64 (c := z13 + 1) rfl rfl rfl (by omega) (by omega)) rfl rfl rfl ?_
      obtain ⟨z30, hz31, hz32⟩ : ∃ z, (if (g ((n).toNat)) < z13 + 1 then z13 + 1 else (g ((n).toNat))) = z ∧ ((g ((n).toNat)) ≤ z ∧ z13 + 1 ≤ z ∧ (z = (g ((n).toNat)) ∨ z = z13 + 1)) := ⟨_, rfl, by split <;> omega⟩
      refine sm_op (ev_maxE hz31 rfl rfl) rfl rfl rfl ?_
      refine sm_op (ev_nilCheck rfl) rfl rfl rfl ?_
      refine sm_op (ev_fieldAddr rfl fa67_0 (o' := 0) rfl) rfl rfl rfl ?_
      have hi33 : 0 ≤ n := by omega
      have hi34 : n < ((8 : Nat) : Int) := by omega
      refine sm_op (ev_indexArr rfl rfl hi33 hi34 arr31 (o' := (n).toNat) (by omega)) rfl rfl rfl ?_
      obtain ⟨H35, he36, H35n, hB37, f38⟩ := mem_storeC (x := z30) (k := (n).toNat) size2 hB20 (by omega)
      refine sm_op0 (he36 _ _ _ _ _ _ _ _ _ rfl rfl) rfl rfl ?_
      have hx39 : Ext1 p H H35 := Ext1.step hx22 (b := p) (.inr rfl) (by omega) f38
      try show aw _ _ _ _ _ _
      refine aw_seq ?_
      refine aw_reg ?_
      refine st_op (ev_move rfl) rfl rfl rfl ?_
      refine st_op (ev_assign rfl) rfl rfl rfl ?_
      try show aw _ _ _ _ _ _
      refine aw_ret ?_
      have hTn := hI n.toNat (by omega) (by omega)
      exact ⟨_, rfl, hx39, _, hB37, tset_both hI (by omega) (by omega) (by omega) (by omega) (by omega)⟩
theorem no_spec (H : Heap) (p : Nat) (g : Nat → Int) (n i : Int) (hB : H.blk p = some ⟨Cells 16 g, 16, false, false⟩) (hp : p < H.next) (hI : TInv g) : ∃ v H', Spec Try.prog 14 [.pointer (some ⟨p, 0, none⟩), .int .i64 n, .int .i64 i] H v H' ∧ (Ext1 p H H' ∧ ∃ g', H'.blk p = some ⟨Cells 16 g', 16, false, false⟩ ∧ TInv g' ∧ TMono g g') := by
  refine spec_go3 E0_ok 49 (f := 14) Try.func14 rfl rfl rfl ?_
  refine aw_seq ?_
  refine aw_reg ?_
  refine st_op (ev_assign rfl) rfl rfl rfl ?_
  try show aw _ _ _ _ _ _
  refine aw_seq ?_
  refine aw_seq ?_
  refine aw_reg ?_
  refine st_op (ev_move rfl) rfl rfl rfl ?_
  refine st_op (ev_move rfl) rfl rfl rfl ?_
  refine st_call rfl rfl rfl ent36 rfl rfl rfl ?_
  obtain ⟨_, _, hs1, hs1v, hs1h⟩ := may_spec H p n
  rw [hs1v, hs1h] at hs1; clear hs1v hs1h
  refine ⟨_, _, hs1, ?_⟩
  refine st_op (ev_not rfl) rfl rfl rfl ?_
  refine st_op (ev_move rfl) rfl rfl rfl ?_
  refine st_bool 12 rfl (fun hb2 => ?_) (fun hb2 => ?_)
  ·
    have hb2 : (mayB n) = false := by simpa using hb2
    refine st_skip rfl rfl rfl ?_
    refine st_skip rfl rfl rfl ?_
    refine st_skip rfl rfl rfl ?_
    refine st_op (ev_pickT rfl rfl) rfl rfl rfl ?_
    try show aw _ _ _ _ _ _
    refine aw_cond (t := true) rfl ?_
    try show aw _ _ _ _ _ _
    refine aw_seq ?_
    refine aw_reg ?_
    refine st_op (ev_assign rfl) rfl rfl rfl ?_
    try show aw _ _ _ _ _ _
    refine aw_ret ?_
    exact ⟨_, rfl, Ext1.refl p _, g, hB, hI, TMono.refl g⟩
  ·
    have hb2 : (mayB n) = true := by simpa using hb2
    have hb2 := mayB_iff.1 hb2
    refine st_op (ev_move rfl) rfl rfl rfl ?_
    refine st_call rfl rfl rfl ent37 rfl rfl rfl ?_
    obtain ⟨_, _, hs3, hs3v, hs3h⟩ := in_spec H i
    rw [hs3v, hs3h] at hs3; clear hs3v hs3h
    refine ⟨_, _, hs3, ?_⟩
    refine st_op (ev_not rfl) rfl rfl rfl ?_
    refine st_op (ev_pickF rfl rfl) rfl rfl rfl ?_
    try show aw _ _ _ _ _ _
    refine aw_cond (t := !(inB i)) rfl ?_
    by_cases hc4 : (!(inB i)) = true
    · rw [hc4]
      rw [if_pos rfl]
      have hc4 : (inB i) = false := by simpa using hc4
      refine aw_seq ?_
      refine aw_reg ?_
      refine st_op (ev_assign rfl) rfl rfl rfl ?_
      try show aw _ _ _ _ _ _
      refine aw_ret ?_
      exact ⟨_, rfl, Ext1.refl p _, g, hB, hI, TMono.refl g⟩
    · rw [Bool.not_eq_true] at hc4; rw [hc4]
      rw [if_neg Bool.false_ne_true]
      have hc4 : (inB i) = true := by simpa using hc4
      have hc4 := inB_iff.1 hc4
      refine aw_skip ?_
      try show aw _ _ _ _ _ _
      refine aw_seq ?_
      refine aw_reg ?_
      refine st_op (ev_move rfl) rfl rfl rfl ?_
      refine st_op (ev_move rfl) rfl rfl rfl ?_
      refine st_op (ev_nilCheck rfl) rfl rfl rfl ?_
      refine st_op (ev_fieldAddr rfl fa67_0 (o' := 0) rfl) rfl rfl rfl ?_
      have hi5 : 0 ≤ n := by omega
      have hi6 : n < ((8 : Nat) : Int) := by omega
      refine st_op (ev_indexArr rfl rfl hi5 hi6 arr31 (o' := (n).toNat) (by omega)) rfl rfl rfl ?_
      have hT7 := hI ((n).toNat) (by omega) (by omega)
      have hl8 := lvar_cells one2 hB (k := (n).toNat) (by omega)
      refine st_op (ev_load rfl hl8) rfl rfl rfl ?_
      refine st_op (ev_assign rfl) rfl rfl rfl ?_
      try show aw _ _ _ _ _ _
      refine aw_seq ?_
      refine aw_marks (fun b => b < H.next) [(false, false), (false, false), (false, false), (false, false), (false, false), (false, false), (false, false), (false, false), (false, false), (false, false), (false, false), (false, false), (false, false), (false, false), (false, false), (false, false), (false, false), (false, false), (false, false)] mixed (by kernel_rfl) (by kernel_rfl) ?_
      refine sm_op (ev_move rfl) rfl rfl rfl ?_
      refine sm_op (ev_move rfl) rfl rfl rfl ?_
      refine sm_op (ev_move rfl) rfl rfl rfl ?_
      refine sm_op (ev_int64 (c := (g ((n).toNat)) - 1) rfl rfl rfl (by omega) (by omega)) rfl rfl rfl ?_
      refine sm_op (ev_move rfl) rfl rfl rfl ?_
      refine sm_op (ev_int64 (c := i + 1) rfl rfl rfl (by omega) (by omega)) rfl rfl rfl ?_
      obtain ⟨z9, hz10, hz11⟩ : ∃ z, (if i + 1 < (g ((n).toNat)) - 1 then i + 1 else (g ((n).toNat)) - 1) = z ∧ ((g ((n).toNat)) - 1 ≥ z ∧ i + 1 ≥ z ∧ (z = (g ((n).toNat)) - 1 ∨ z = i + 1)) := ⟨_, rfl, by split <;> omega⟩
      refine sm_op (ev_minE hz10 rfl rfl) rfl rfl rfl ?_
      refine sm_op (ev_move rfl) rfl rfl rfl ?_
      refine sm_op (ev_move rfl) rfl rfl rfl ?_
      refine sm_op (ev_nilCheck rfl) rfl rfl rfl ?_
      refine sm_op (ev_fieldAddr rfl fa67_1 (o' := 8) rfl) rfl rfl rfl ?_
      have hi12 : 0 ≤ n := by omega
      have hi13 : n < ((8 : Nat) : Int) := by omega
      refine sm_op (ev_indexArr rfl rfl hi12 hi13 arr31 (o' := 8 + (n).toNat) (by omega)) rfl rfl rfl ?_
      have hT14 := hI ((n).toNat) (by omega) (by omega)
      have hl15 := lvar_cells one2 hB (k := 8 + (n).toNat) (by omega)
      refine sm_op (ev_load rfl hl15) rfl rfl rfl ?_
      refine sm_op (ev_int64 (c := (g (8 + (n).toNat)) + 1) rfl rfl rfl (by omega) (by omega)) rfl rfl rfl ?_
      obtain ⟨z16, hz17, hz18⟩ : ∃ z, (if z9 < (g (8 + (n).toNat)) + 1 then (g (8 + (n).toNat)) + 1 else z9) = z ∧ (z9 ≤ z ∧ (g (8 + (n).toNat)) + 1 ≤ z ∧ (z = z9 ∨ z = (g (8 + (n).toNat)) + 1)) := ⟨_, rfl, by split <;> omega⟩
      refine sm_op (ev_maxE hz17 rfl rfl) rfl rfl rfl ?_
      refine sm_op (ev_nilCheck rfl) rfl rfl rfl ?_
      refine sm_op (ev_fieldAddr rfl fa67_0 (o' := 0) rfl) rfl rfl rfl ?_
      have hi19 : 0 ≤ n := by omega
      have hi20 : n < ((8 : Nat) : Int) := by omega
      refine sm_op (ev_indexArr rfl rfl hi19 hi20 arr31 (o' := (n).toNat) (by omega)) rfl rfl rfl ?_
      obtain ⟨H21, he22, H21n, hB23, f24⟩ := mem_storeC (x := z16) (k := (n).toNat) size2 hB (by omega)
      refine sm_op0 (he22 _ _ _ _ _ _ _ _ _ rfl rfl) rfl rfl ?_
      have hx25 : Ext1 p H H21 := Ext1.step (Ext.one (Ext.refl H) p) (b := p) (.inr rfl) (by omega) f24
      try show aw _ _ _ _ _ _
      refine aw_seq ?_
      refine aw_reg ?_
      refine st_op (ev_move rfl) rfl rfl rfl ?_
      refine st_op (ev_move rfl) rfl rfl rfl ?_
      refine st_op (ev_nilCheck rfl) rfl rfl rfl ?_
      refine st_op (ev_fieldAddr rfl fa67_0 (o' := 0) rfl) rfl rfl rfl ?_
      have hi26 : 0 ≤ n := by omega
      have hi27 : n < ((8 : Nat) : Int) := by omega
      refine st_op (ev_indexArr rfl rfl hi26 hi27 arr31 (o' := (n).toNat) (by omega)) rfl rfl rfl ?_
      have hl28 := lvar_cells one2 hB23 (k := (n).toNat) (by omega)
      rw [upd_self] at hl28
      refine st_op (ev_load rfl hl28) rfl rfl rfl ?_
      refine st_op (ev_move rfl) rfl rfl rfl ?_
      refine st_op (ev_int rfl rfl rfl) rfl rfl rfl ?_
      refine st_op (ev_assign rfl) rfl rfl rfl ?_
      try show aw _ _ _ _ _ _
      refine aw_ret ?_
      have hTn := hI n.toNat (by omega) (by omega)
      exact ⟨_, rfl, hx25, _, hB23, tset_next hI (by omega) (by omega) (by omega)⟩
theorem new_spec (H : Heap) (last : Int) (hl0 : 0 ≤ last) (hl1 : last ≤ 1099511627776) : ∃ v H', Spec Try.prog 16 [.int .i64 last] H v H' ∧ (∃ p g, v = .pointer (some ⟨p, 0, none⟩) ∧ H'.blk p = some ⟨Cells 16 g, 16, false, false⟩ ∧ TInv g ∧ H.next ≤ p ∧ p < H'.next ∧ Ext H H') := by
  refine spec_go1 E0_ok 22 (f := 16) Try.func16 rfl rfl rfl ?_
  refine aw_seq ?_
  refine aw_reg ?_
  refine st_op (ev_assign rfl) rfl rfl rfl ?_
  try show aw _ _ _ _ _ _
  refine aw_seq ?_
  refine aw_seq ?_
  refine aw_reg ?_
  refine st_op (ev_move rfl) rfl rfl rfl ?_
  refine st_call rfl rfl rfl ent37 rfl rfl rfl ?_
  obtain ⟨_, _, hs1, hs1v, hs1h⟩ := in_spec H last
  rw [hs1v, hs1h] at hs1; clear hs1v hs1h
  refine ⟨_, _, hs1, ?_⟩
  refine st_op (ev_not rfl) rfl rfl rfl ?_
  try show aw _ _ _ _ _ _
  refine aw_cond (t := !(inB last)) rfl ?_
  by_cases hc2 : (!(inB last)) = true
  · rw [hc2]
    rw [if_pos rfl]
    have hc2 : (inB last) = false := by simpa using hc2
    exact absurd (inB_iff.2 ⟨hl0, hl1⟩) (by rw [hc2]; decide)
  · rw [Bool.not_eq_true] at hc2; rw [hc2]
    rw [if_neg Bool.false_ne_true]
    have hc2 : (inB last) = true := by simpa using hc2
    have hc2 := inB_iff.1 hc2
    refine aw_skip ?_
    try show aw _ _ _ _ _ _
    refine aw_seq ?_
    refine aw_reg ?_
    refine st_op (ev_build zero67 pl67 (parts := []) rfl (cs := [.int .i64 0, .int .i64 0, .int .i64 0, .int .i64 0, .int .i64 0, .int .i64 0, .int .i64 0, .int .i64 0, .int .i64 0, .int .i64 0, .int .i64 0, .int .i64 0, .int .i64 0, .int .i64 0, .int .i64 0, .int .i64 0]) rfl) rfl rfl rfl ?_
    obtain ⟨b3, H4, he5, b3e, H4n, hB7, f6⟩ := mem_box (P := Try.prog) H (v := .agg #[.int .i64 0, .int .i64 0, .int .i64 0, .int .i64 0, .int .i64 0, .int .i64 0, .int .i64 0, .int .i64 0, .int .i64 0, .int .i64 0, .int .i64 0, .int .i64 0, .int .i64 0, .int .i64 0, .int .i64 0, .int .i64 0]) (cs := [.int .i64 0, .int .i64 0, .int .i64 0, .int .i64 0, .int .i64 0, .int .i64 0, .int .i64 0, .int .i64 0, .int .i64 0, .int .i64 0, .int .i64 0, .int .i64 0, .int .i64 0, .int .i64 0, .int .i64 0, .int .i64 0]) rfl rfl
    refine st_op (he5 _ _ _ _ _ _ _ _ _ rfl) rfl rfl rfl ?_
    have hx8 : Ext H H4 := Ext.step (Ext.refl H) (b := b3) (by have := ((Ext.refl H)).1; omega) (by omega) f6
    refine st_op (ev_assign rfl) rfl rfl rfl ?_
    try show aw _ _ _ _ _ _
    refine aw_seq ?_
    refine aw_seq ?_
    refine aw_reg ?_
    refine st_op (ev_move rfl) rfl rfl rfl ?_
    try show aw _ _ _ _ _ _
    refine aw_block ?_
    have hBz := hB7
    rw [← cells_zero16] at hBz
    refine aw_keep [0, 3, 10] (l' := (.cons 0 (.int .i64 last) (.cons 3 (.pointer (some ⟨b3, 0, none⟩)) (.cons 10 (.int .i64 0) .nil)))) (by repeat (first | exact Up.done | refine Up.then ?_ | refine Up.inBlock ?_)) rfl ?_
    refine aw_iter (α := Nat × (Nat → Int) × Heap) (fun a => 8 - a.1) (fun a => (.cons 0 (.int .i64 last) (.cons 3 (.pointer (some ⟨b3, 0, none⟩)) (.cons 10 (.int .i64 (a.1 : Int)) .nil)))) (fun a => a.2.2) (fun a => (a.1 ≤ 8) ∧ (a.2.2.blk b3 = some ⟨Cells 16 a.2.1, 16, false, false⟩) ∧ (∀ j, j < a.1 → a.2.1 j = last + 1) ∧ (∀ j, 8 ≤ j → a.2.1 j = 0) ∧ (Ext H a.2.2) ∧ (b3 < a.2.2.next)) (0, fun _ => 0, H4) ⟨(show 0 ≤ 8 from by omega), (show H4.blk b3 = some ⟨Cells 16 (fun _ => 0), 16, false, false⟩ from hBz), (show ∀ j, j < 0 → (fun _ => 0) j = last + 1 from fun j hj => by omega), (show ∀ j, 8 ≤ j → (fun _ => 0) j = 0 from fun _ _ => rfl), (show Ext H H4 from hx8), (show b3 < H4.next from by omega)⟩ ?_
    rintro ⟨i, g, Hl⟩ ⟨hi, hB, hg1, hg2, hx, hpl⟩ ih9
    replace hi : i ≤ 8 := hi
    replace hB : Hl.blk b3 = some ⟨Cells 16 g, 16, false, false⟩ := hB
    replace hg1 : ∀ j, j < i → g j = last + 1 := hg1
    replace hg2 : ∀ j, 8 ≤ j → g j = 0 := hg2
    replace hx : Ext H Hl := hx
    replace hpl : b3 < Hl.next := hpl
    show aw _ _ _ (RL _ (.cons 0 (.int .i64 last) (.cons 3 (.pointer (some ⟨b3, 0, none⟩)) (.cons 10 (.int .i64 (i : Int)) .nil)))) Hl _
    refine aw_seq ?_
    refine aw_reg ?_
    refine st_op (ev_int rfl rfl rfl) rfl rfl rfl ?_
    try show aw _ _ _ _ _ _
    refine aw_seq ?_
    refine aw_cond (t := decide ((i : Int) < 8)) rfl ?_
    by_cases hc10 : (decide ((i : Int) < 8)) = true
    · rw [hc10]
      rw [if_pos rfl]
      have hc10 := of_decide_eq_true hc10
      refine aw_skip ?_
      try show aw _ _ _ _ _ _
      refine aw_seq ?_
      refine aw_block ?_
      refine aw_seq ?_
      refine aw_reg ?_
      refine st_op (ev_move rfl) rfl rfl rfl ?_
      refine st_op (ev_assign rfl) rfl rfl rfl ?_
      try show aw _ _ _ _ _ _
      refine aw_reg ?_
      refine st_op (ev_move rfl) rfl rfl rfl ?_
      refine st_op (ev_move rfl) rfl rfl rfl ?_
      refine st_op (ev_move rfl) rfl rfl rfl ?_
      refine st_op (ev_int64 (c := last + 1) rfl rfl rfl (by omega) (by omega)) rfl rfl rfl ?_
      refine st_op (ev_nilCheck rfl) rfl rfl rfl ?_
      refine st_op (ev_fieldAddr rfl fa67_0 (o' := 0) rfl) rfl rfl rfl ?_
      have hi11 : 0 ≤ (i : Int) := by omega
      have hi12 : (i : Int) < ((8 : Nat) : Int) := by omega
      refine st_op (ev_indexArr rfl rfl hi11 hi12 arr31 (o' := i) (by omega)) rfl rfl rfl ?_
      obtain ⟨H13, he14, H13n, hB15, f16⟩ := mem_storeC (x := last + 1) (k := i) size2 hB (by omega)
      refine st_op0 (he14 _ _ _ _ _ _ _ _ _ rfl rfl) rfl rfl ?_
      have hx17 : Ext H H13 := Ext.step hx (b := b3) (by have := (hx).1; omega) (by omega) f16
      try show aw _ _ _ _ _ _
      refine aw_reg ?_
      refine st_op (ev_int64 (c := (i : Int) + 1) rfl rfl rfl (by omega) (by omega)) rfl rfl rfl ?_
      refine st_op (ev_move rfl) rfl rfl rfl ?_
      try show aw _ _ _ _ _ _
      refine aw_keep [0, 3, 10] (l' := (.cons 0 (.int .i64 last) (.cons 3 (.pointer (some ⟨b3, 0, none⟩)) (.cons 10 (.int .i64 ((i : Int) + 1)) .nil)))) (by repeat (first | exact Up.done | refine Up.then ?_ | refine Up.inBlock ?_)) rfl ?_
      exact ih9 (i + 1, (upd g (i) (last + 1)), H13) ⟨(show (i + 1) ≤ 8 from by omega), (show H13.blk b3 = some ⟨Cells 16 (upd g (i) (last + 1)), 16, false, false⟩ from hB15), (show ∀ j, j < (i + 1) → (upd g (i) (last + 1)) j = last + 1 from fun j hj => by by_cases h : j = i; (subst h; rw [upd_self]); (rw [upd_ne _ _ h]; exact hg1 j (by omega))), (show ∀ j, 8 ≤ j → (upd g (i) (last + 1)) j = 0 from fun j hj => by rw [upd_ne _ _ (by omega)]; exact hg2 j hj), (show Ext H H13 from hx17), (show b3 < H13.next from by omega)⟩ (by simp only; omega)
    · rw [Bool.not_eq_true] at hc10; rw [hc10]
      rw [if_neg Bool.false_ne_true]
      have hc10 := of_decide_eq_false hc10
      refine aw_exit ?_
      try show aw _ _ _ _ _ _
      refine aw_seq ?_
      refine aw_reg ?_
      refine st_op (ev_move rfl) rfl rfl rfl ?_
      refine st_op (ev_assign rfl) rfl rfl rfl ?_
      try show aw _ _ _ _ _ _
      refine aw_ret ?_
      exact ⟨_, rfl, b3, g, rfl, hB, (fun j h1 h2 => by rw [hg1 j (by omega), hg2 (8 + j) (by omega)]; omega), by omega, hpl, hx⟩
theorem law_spec (H : Heap) (last : Int) (A : Option Addr) (ops : List TOp) (c : Nat) (hrow : Row H A c 3 (ops.map TOp.cells)) (hc : ops.length ≤ c) (hm0 : ops.length ≤ 140737488351232) : ∃ v H', Spec Try.prog 4 [.int .i64 last, .slice A ops.length c] H v H' ∧ (v = .bool true) := by
  refine spec_go2 E0_ok 85 (f := 4) Try.func4 rfl rfl rfl ?_
  refine aw_seq ?_
  refine aw_reg ?_
  refine st_op (ev_assign rfl) rfl rfl rfl ?_
  try show aw _ _ _ _ _ _
  refine aw_seq ?_
  refine aw_reg ?_
  refine st_call rfl rfl rfl ent10 rfl rfl rfl ?_
  obtain ⟨_, _, hs1, hs1v, hs1h⟩ := begun_spec H
  rw [hs1v, hs1h] at hs1; clear hs1v hs1h
  refine ⟨_, _, hs1, ?_⟩
  refine st_op (ev_assign rfl) rfl rfl rfl ?_
  try show aw _ _ _ _ _ _
  refine aw_seq ?_
  refine aw_seq ?_
  refine aw_reg ?_
  refine st_op (ev_move rfl) rfl rfl rfl ?_
  refine st_op (ev_not rfl) rfl rfl rfl ?_
  try show aw _ _ _ _ _ _
  refine aw_cond (t := false) rfl ?_
  try show aw _ _ _ _ _ _
  refine aw_skip ?_
  try show aw _ _ _ _ _ _
  refine aw_seq ?_
  refine aw_seq ?_
  refine aw_reg ?_
  refine st_op (ev_move rfl) rfl rfl rfl ?_
  refine st_op (ev_int rfl rfl rfl) rfl rfl rfl ?_
  refine st_op (ev_move rfl) rfl rfl rfl ?_
  refine st_bool 16 rfl (fun hb2 => ?_) (fun hb2 => ?_)
  ·
    have hb2 := of_decide_eq_true hb2
    refine st_skip rfl rfl rfl ?_
    refine st_skip rfl rfl rfl ?_
    refine st_op (ev_pickT rfl rfl) rfl rfl rfl ?_
    try show aw _ _ _ _ _ _
    refine aw_cond (t := true) rfl ?_
    try show aw _ _ _ _ _ _
    refine aw_seq ?_
    refine aw_reg ?_
    refine st_op (ev_assign rfl) rfl rfl rfl ?_
    try show aw _ _ _ _ _ _
    refine aw_ret ?_
    first | exact ⟨_, rfl, rfl⟩ | (exfalso; omega)
  ·
    have hb2 := of_decide_eq_false hb2
    refine st_op (ev_move rfl) rfl rfl rfl ?_
    refine st_op (ev_int rfl rfl rfl) rfl rfl rfl ?_
    refine st_op (ev_pickF rfl rfl) rfl rfl rfl ?_
    try show aw _ _ _ _ _ _
    refine aw_cond (t := decide (last > 1099511627776)) rfl ?_
    by_cases hc3 : (decide (last > 1099511627776)) = true
    · rw [hc3]
      rw [if_pos rfl]
      have hc3 := of_decide_eq_true hc3
      refine aw_seq ?_
      refine aw_reg ?_
      refine st_op (ev_assign rfl) rfl rfl rfl ?_
      try show aw _ _ _ _ _ _
      refine aw_ret ?_
      first | exact ⟨_, rfl, rfl⟩ | (exfalso; omega)
    · rw [Bool.not_eq_true] at hc3; rw [hc3]
      rw [if_neg Bool.false_ne_true]
      have hc3 := of_decide_eq_false hc3
      refine aw_skip ?_
      try show aw _ _ _ _ _ _
      refine aw_seq ?_
      refine aw_reg ?_
      refine st_op (ev_move rfl) rfl rfl rfl ?_
      refine st_call rfl rfl rfl ent16 rfl rfl rfl ?_
      obtain ⟨_, H4, hs5, p, g0, hvp, hB0, hI0, hp0, hp1, hxp⟩ := new_spec H last (by omega) (by omega)
      rw [hvp] at hs5; clear hvp
      have hxpn := hxp.1
      refine ⟨_, _, hs5, ?_⟩
      have hx6 : Ext H H4 := Ext.trans (Ext.refl H) hxp
      refine st_op (ev_assign rfl) rfl rfl rfl ?_
      try show aw _ _ _ _ _ _
      refine aw_seq ?_
      refine aw_reg ?_
      obtain ⟨b7, H8, he9, b7e, H8n, hB11, f10⟩ := mem_alloc H4 zero31
      refine st_op (he9 _ _ _ _ _ _ _) rfl rfl rfl ?_
      have hB12 := (f10 p (by omega)).trans hB0
      have hx13 : Ext H H8 := Ext.step hx6 (b := b7) (by have := (hx6).1; omega) (by omega) f10
      try show aw _ _ _ _ _ _
      refine aw_seq ?_
      refine aw_seq ?_
      refine aw_reg ?_
      refine st_op (ev_assign rfl) rfl rfl rfl ?_
      try show aw _ _ _ _ _ _
      refine aw_block ?_
      have hCz := hB11
      rw [← cells_zero8] at hCz
      refine aw_keep [1, 6, 7, 8] (l' := (.cons 1 (.slice A ops.length c) (.cons 6 (.pointer (some ⟨p, 0, none⟩)) (.cons 7 (.pointer (some ⟨b7, 0, none⟩)) (.cons 8 (.int .i64 0) .nil))))) (by repeat (first | exact Up.done | refine Up.then ?_ | refine Up.inBlock ?_)) rfl ?_
      refine aw_iter (α := Nat × (Nat → Int) × (Nat → Int) × Heap) (fun a => ops.length - a.1) (fun a => (.cons 1 (.slice A ops.length c) (.cons 6 (.pointer (some ⟨p, 0, none⟩)) (.cons 7 (.pointer (some ⟨b7, 0, none⟩)) (.cons 8 (.int .i64 (a.1 : Int)) .nil))))) (fun a => a.2.2.2) (fun a => (a.1 ≤ ops.length) ∧ (a.2.2.2.blk p = some ⟨Cells 16 a.2.1, 16, false, false⟩) ∧ (a.2.2.2.blk b7 = some ⟨Cells 8 a.2.2.1, 8, false, false⟩) ∧ (TInv a.2.1) ∧ (∀ j, 1 ≤ j → j ≤ 7 → a.2.2.1 j ≤ a.2.1 (8 + j)) ∧ (Ext H a.2.2.2) ∧ (p < a.2.2.2.next) ∧ (b7 < a.2.2.2.next)) (0, g0, fun _ => 0, H8) ⟨(show 0 ≤ ops.length from Nat.zero_le _), (show H8.blk p = some ⟨Cells 16 g0, 16, false, false⟩ from hB12), (show H8.blk b7 = some ⟨Cells 8 (fun _ => 0), 8, false, false⟩ from hCz), (show TInv g0 from hI0), (show ∀ j, 1 ≤ j → j ≤ 7 → (fun _ => 0) j ≤ g0 (8 + j) from fun j h1 h2 => (hI0 j h1 h2).1), (show Ext H H8 from hx13), (show p < H8.next from by omega), (show b7 < H8.next from by omega)⟩ ?_
      rintro ⟨i, g, m, Hl⟩ ⟨hi, hB, hC, hI, hm, hx, hpl, hql⟩ ih14
      replace hi : i ≤ ops.length := hi
      replace hB : Hl.blk p = some ⟨Cells 16 g, 16, false, false⟩ := hB
      replace hC : Hl.blk b7 = some ⟨Cells 8 m, 8, false, false⟩ := hC
      replace hI : TInv g := hI
      replace hm : ∀ j, 1 ≤ j → j ≤ 7 → m j ≤ g (8 + j) := hm
      replace hx : Ext H Hl := hx
      replace hpl : p < Hl.next := hpl
      replace hql : b7 < Hl.next := hql
      show aw _ _ _ (RL _ (.cons 1 (.slice A ops.length c) (.cons 6 (.pointer (some ⟨p, 0, none⟩)) (.cons 7 (.pointer (some ⟨b7, 0, none⟩)) (.cons 8 (.int .i64 (i : Int)) .nil))))) Hl _
      have hxn := hx.1
      have hro := Row.ext hrow hx
      refine aw_seq ?_
      refine aw_seq ?_
      refine aw_reg ?_
      refine st_op (ev_move rfl) rfl rfl rfl ?_
      refine st_op (ev_move rfl) rfl rfl rfl ?_
      refine st_op (ev_lenSl rfl Try.underlying29) rfl rfl rfl ?_
      refine st_op (ev_int rfl rfl rfl) rfl rfl rfl ?_
      refine st_op (ev_move rfl) rfl rfl rfl ?_
      refine st_bool 26 rfl (fun hb15 => ?_) (fun hb15 => ?_)
      ·
        have hb15 := of_decide_eq_true hb15
        refine st_op (ev_move rfl) rfl rfl rfl ?_
        refine st_op (ev_int rfl rfl rfl) rfl rfl rfl ?_
        refine st_op (ev_pickT rfl rfl) rfl rfl rfl ?_
        try show aw _ _ _ _ _ _
        refine aw_cond (t := decide ((i : Int) < 40)) rfl ?_
        by_cases hc16 : (decide ((i : Int) < 40)) = true
        · rw [hc16]
          rw [if_pos rfl]
          have hc16 := of_decide_eq_true hc16
          refine aw_skip ?_
          try show aw _ _ _ _ _ _
          refine aw_seq ?_
          refine aw_block ?_
          refine aw_seq ?_
          refine aw_reg ?_
          refine st_op (ev_move rfl) rfl rfl rfl ?_
          refine st_op (ev_move rfl) rfl rfl rfl ?_
          have hi17 : 0 ≤ (i : Int) := by omega
          have hi18 : (i : Int) < ((ops.length : Nat) : Int) := by omega
          obtain ⟨x19, hx20⟩ : ∃ e, ops[i]? = some e := ⟨_, List.getElem?_eq_getElem (by omega)⟩
          obtain ⟨b21, o22, rfl, hr23⟩ := Row.at_ hro (getMap TOp.cells hx20)
          have b21lt := hr23.1
          refine st_op (ev_indexAddr rfl rfl hi17 hi18 el29 (o' := o22 + i * 3) (by first | rfl | (simp only [Int.toNat_natCast]; rfl) | simp)) rfl rfl rfl ?_
          refine st_op (ev_load rfl (hr23.agg many33 (by decide) (getMap TOp.cells hx20))) rfl rfl rfl ?_
          obtain ⟨b24, H25, he26, b24e, H25n, hB28, f27⟩ := mem_alloc Hl zero33
          refine st_op (he26 _ _ _ _ _ _ _) rfl rfl rfl ?_
          have hB29 := (f27 p (by omega)).trans hB
          have hB30 := (f27 b7 (by omega)).trans hC
          have hr31 := RowIn.next hr23 (show Hl.next ≤ H25.next by omega) (f27 b21 (by have := hr23.1; omega))
          have hx32 : Ext H H25 := Ext.step hx (b := b24) (by have := (hx).1; omega) (by omega) f27
          obtain ⟨H33, he34, H33n, hB35, f36⟩ := mem_store (v := .agg #[.int .i64 x19.kind, .int .i64 x19.id, .int .i64 x19.i]) (o := 0) (cs' := [.int .i64 x19.kind, .int .i64 x19.id, .int .i64 x19.i]) 3 rfl rfl size33 hB28 rfl rfl rfl
          refine st_op0 (he34 _ _ _ _ _ _ _ _ _ rfl rfl) rfl rfl ?_
          have hB37 := (f36 p (by omega)).trans hB29
          have hB38 := (f36 b7 (by omega)).trans hB30
          have hr39 := RowIn.next hr31 (show H25.next ≤ H33.next by omega) (f36 b21 (by omega))
          have hx40 : Ext H H33 := Ext.step hx32 (b := b24) (by have := (hx32).1; omega) (by omega) f36
          try show aw _ _ _ _ _ _
          refine aw_seq ?_
          refine aw_seq ?_
          refine aw_reg ?_
          refine st_op (ev_fieldAddr rfl fa33_0 (o' := 0) rfl) rfl rfl rfl ?_
          refine st_op (ev_load rfl (lvar_one one3 hB35 rfl)) rfl rfl rfl ?_
          try show aw _ _ _ _ _ _
          refine aw_block ?_
          refine aw_seq ?_
          refine aw_reg ?_
          refine st_op (ev_int rfl rfl rfl) rfl rfl rfl ?_
          refine st_op (ev_assign rfl) rfl rfl rfl ?_
          try show aw _ _ _ _ _ _
          refine aw_cond (t := x19.kind == 0) rfl ?_
          by_cases hc41 : (x19.kind == 0) = true
          · rw [hc41]
            rw [if_pos rfl]
            have hc41 := eq_of_beq hc41
            refine aw_reg ?_
            refine st_op (ev_move rfl) rfl rfl rfl ?_
            refine st_op (ev_fieldAddr rfl fa33_1 (o' := 1) rfl) rfl rfl rfl ?_
            refine st_op (ev_load rfl (lvar_one one3 hB35 rfl)) rfl rfl rfl ?_
            refine st_op (ev_fieldAddr rfl fa33_2 (o' := 2) rfl) rfl rfl rfl ?_
            refine st_op (ev_load rfl (lvar_one one2 hB35 rfl)) rfl rfl rfl ?_
            refine st_call rfl rfl rfl ent13 rfl rfl rfl ?_
            obtain ⟨v42, H43, hs44, hx45, g46, hB47, hI48, hM49⟩ := yes_spec H33 p g x19.id x19.i hB37 (by omega) hI
            have hx45n := hx45.1
            refine ⟨_, _, hs44, ?_⟩
            have hx50 : Ext H H43 := Ext.ext1 hx40 hx45 (by omega)
            have hB51 := (hx45.2 b7 (by omega) (by omega)).trans hB38
            have hr52 := RowIn.next hr39 hx45.1 (hx45.2 b21 hr39.1 (RowIn.ne hr39 hB37 (by decide)))
            have hB53 := (hx45.2 b24 (by omega) (by omega)).trans hB35
            try show aw _ _ _ _ _ _
            refine aw_seq ?_
            refine aw_reg ?_
            refine st_op (ev_assign rfl) rfl rfl rfl ?_
            try show aw _ _ _ _ _ _
            refine aw_block ?_
            have hm1 : ∀ j, 1 ≤ j → j ≤ 7 → m j ≤ g46 (8 + j) := fun j a b => Int.le_trans (hm j a b) (hM49 j a b)
            refine aw_keep [1, 6, 7, 8, 10] (l' := (.cons 1 (.slice (some ⟨b21, o22, none⟩) ops.length c) (.cons 6 (.pointer (some ⟨p, 0, none⟩)) (.cons 7 (.pointer (some ⟨b7, 0, none⟩)) (.cons 8 (.int .i64 (i : Int)) (.cons 10 (.int .i64 1) .nil)))))) (by repeat (first | exact Up.done | refine Up.then ?_ | refine Up.inBlock ?_)) rfl ?_
            refine aw_iter (α := Nat × (Nat → Int) × Heap) (fun a => 8 - a.1) (fun a => (.cons 1 (.slice (some ⟨b21, o22, none⟩) ops.length c) (.cons 6 (.pointer (some ⟨p, 0, none⟩)) (.cons 7 (.pointer (some ⟨b7, 0, none⟩)) (.cons 8 (.int .i64 (i : Int)) (.cons 10 (.int .i64 (a.1 : Int)) .nil)))))) (fun a => a.2.2) (fun a => (1 ≤ a.1) ∧ (a.1 ≤ 8) ∧ (a.2.2.blk p = some ⟨Cells 16 g46, 16, false, false⟩) ∧ (a.2.2.blk b7 = some ⟨Cells 8 a.2.1, 8, false, false⟩) ∧ (∀ j, 1 ≤ j → j ≤ 7 → a.2.1 j ≤ g46 (8 + j)) ∧ (Ext H a.2.2) ∧ (H43.next ≤ a.2.2.next)) (1, m, H43) ⟨(show 1 ≤ 1 from by omega), (show 1 ≤ 8 from by omega), (show H43.blk p = some ⟨Cells 16 g46, 16, false, false⟩ from hB47), (show H43.blk b7 = some ⟨Cells 8 m, 8, false, false⟩ from hB51), (show ∀ j, 1 ≤ j → j ≤ 7 → m j ≤ g46 (8 + j) from hm1), (show Ext H H43 from hx50), (show H43.next ≤ H43.next from Nat.le_refl _)⟩ ?_
            rintro ⟨k, m2, Hk⟩ ⟨hk1, hk2, hBk, hCk, hmk, hxk, hnk⟩ ih54
            replace hk1 : 1 ≤ k := hk1
            replace hk2 : k ≤ 8 := hk2
            replace hBk : Hk.blk p = some ⟨Cells 16 g46, 16, false, false⟩ := hBk
            replace hCk : Hk.blk b7 = some ⟨Cells 8 m2, 8, false, false⟩ := hCk
            replace hmk : ∀ j, 1 ≤ j → j ≤ 7 → m2 j ≤ g46 (8 + j) := hmk
            replace hxk : Ext H Hk := hxk
            replace hnk : H43.next ≤ Hk.next := hnk
            show aw _ _ _ (RL _ (.cons 1 (.slice (some ⟨b21, o22, none⟩) ops.length c) (.cons 6 (.pointer (some ⟨p, 0, none⟩)) (.cons 7 (.pointer (some ⟨b7, 0, none⟩)) (.cons 8 (.int .i64 (i : Int)) (.cons 10 (.int .i64 (k : Int)) .nil)))))) Hk _
            refine aw_seq ?_
            refine aw_seq ?_
            refine aw_reg ?_
            refine st_op (ev_move rfl) rfl rfl rfl ?_
            refine st_op (ev_int rfl rfl rfl) rfl rfl rfl ?_
            try show aw _ _ _ _ _ _
            refine aw_cond (t := decide ((k : Int) ≤ 7)) rfl ?_
            by_cases hc55 : (decide ((k : Int) ≤ 7)) = true
            · rw [hc55]
              rw [if_pos rfl]
              have hc55 := of_decide_eq_true hc55
              refine aw_skip ?_
              try show aw _ _ _ _ _ _
              refine aw_seq ?_
              refine aw_block ?_
              refine aw_seq ?_
              refine aw_seq ?_
              refine aw_marks (fun b => b < Hk.next) [(false, false), (false, false), (false, true), (false, false), (false, false), (true, false), (false, false), (false, false), (false, false), (false, false), (false, false), (false, false), (false, false), (false, false), (false, false), (false, false)] mixed (by kernel_rfl) (by kernel_rfl) ?_
              refine sm_op (ev_move rfl) rfl rfl rfl ?_
              refine sm_op (ev_move rfl) rfl rfl rfl ?_
              refine sm_call rfl rfl rfl ent12 rfl rfl rfl ?_
              have hT56 := hI48 k (by omega) (by omega)
              obtain ⟨_, _, hs57, hs57v, hs57h⟩ := match_spec Hk p g46 k hBk hI48 (by omega) (by omega)
              rw [hs57v, hs57h] at hs57; clear hs57v hs57h
              refine ⟨_, _, hs57, (fun _ _ _ => rfl), ?_⟩
              refine sm_op (ev_move rfl) rfl rfl rfl ?_
              have hi58 : 0 ≤ (k : Int) := by omega
              have hi59 : (k : Int) < ((8 : Nat) : Int) := by omega
              refine sm_op (ev_indexArr rfl rfl hi58 hi59 arr31 (o' := k) (by omega)) rfl rfl rfl ?_
              have hT60 := hmk k (by omega) (by omega)
              have hl61 := lvar_cells one2 hCk (k := k) (by omega)
              refine sm_read (ev_load rfl hl61) rfl rfl rfl (fun b hb => by cases hb; dsimp only; omega) ?_
              refine sm_op (ev_int rfl rfl rfl) rfl rfl rfl ?_
              refine sm_op (ev_move rfl) rfl rfl rfl ?_
              refine sm_bool 71 rfl (fun hb62 => ?_) (fun hb62 => ?_)
              ·
                have hb62 := of_decide_eq_true hb62
                refine sm_skip rfl rfl rfl ?_
                refine sm_skip rfl rfl rfl ?_
                refine sm_skip rfl rfl rfl ?_
                refine sm_skip rfl rfl rfl ?_
                refine sm_skip rfl rfl rfl ?_
                refine sm_skip rfl rfl rfl ?_
                refine sm_skip rfl rfl rfl ?_
                refine sm_op (ev_pickT rfl rfl) rfl rfl rfl ?_
                try show aw _ _ _ _ _ _
                refine aw_cond (t := true) rfl ?_
                try show aw _ _ _ _ _ _
                refine aw_seq ?_
                refine aw_reg ?_
                refine st_op (ev_assign rfl) rfl rfl rfl ?_
                try show aw _ _ _ _ _ _
                refine aw_ret ?_
                first | exact ⟨_, rfl, rfl⟩ | (exfalso; omega)
              ·
                have hb62 := of_decide_eq_false hb62
                refine sm_op (ev_move rfl) rfl rfl rfl ?_
                refine sm_op (ev_move rfl) rfl rfl rfl ?_
                refine sm_call rfl rfl rfl ent11 rfl rfl rfl ?_
                have hT63 := hI48 k (by omega) (by omega)
                obtain ⟨_, _, hs64, hs64v, hs64h⟩ := next_spec Hk p g46 k hBk hI48 (by omega) (by omega)
                rw [hs64v, hs64h] at hs64; clear hs64v hs64h
                refine ⟨_, _, hs64, (fun _ _ _ => rfl), ?_⟩
                refine sm_op (ev_move rfl) rfl rfl rfl ?_
                refine sm_op (ev_move rfl) rfl rfl rfl ?_
                refine sm_call rfl rfl rfl ent12 rfl rfl rfl ?_
                have hT65 := hI48 k (by omega) (by omega)
                obtain ⟨_, _, hs66, hs66v, hs66h⟩ := match_spec Hk p g46 k hBk hI48 (by omega) (by omega)
                rw [hs66v, hs66h] at hs66; clear hs66v hs66h
                refine ⟨_, _, hs66, (fun _ _ _ => rfl), ?_⟩
                refine sm_op (ev_int rfl rfl rfl) rfl rfl rfl ?_
                refine sm_op (ev_pickF rfl rfl) rfl rfl rfl ?_
                try show aw _ _ _ _ _ _
                refine aw_cond (t := decide ((g46 (k)) ≤ (g46 (8 + k)))) rfl ?_
                by_cases hc67 : (decide ((g46 (k)) ≤ (g46 (8 + k)))) = true
                · rw [hc67]
                  rw [if_pos rfl]
                  have hc67 := of_decide_eq_true hc67
                  refine aw_seq ?_
                  refine aw_reg ?_
                  refine st_op (ev_assign rfl) rfl rfl rfl ?_
                  try show aw _ _ _ _ _ _
                  refine aw_ret ?_
                  first | exact ⟨_, rfl, rfl⟩ | (exfalso; omega)
                · rw [Bool.not_eq_true] at hc67; rw [hc67]
                  rw [if_neg Bool.false_ne_true]
                  have hc67 := of_decide_eq_false hc67
                  refine aw_skip ?_
                  try show aw _ _ _ _ _ _
                  refine aw_reg ?_
                  refine st_op (ev_move rfl) rfl rfl rfl ?_
                  refine st_op (ev_move rfl) rfl rfl rfl ?_
                  refine st_op (ev_move rfl) rfl rfl rfl ?_
                  refine st_call rfl rfl rfl ent12 rfl rfl rfl ?_
                  have hT68 := hI48 k (by omega) (by omega)
                  obtain ⟨_, _, hs69, hs69v, hs69h⟩ := match_spec Hk p g46 k hBk hI48 (by omega) (by omega)
                  rw [hs69v, hs69h] at hs69; clear hs69v hs69h
                  refine ⟨_, _, hs69, ?_⟩
                  have hi70 : 0 ≤ (k : Int) := by omega
                  have hi71 : (k : Int) < ((8 : Nat) : Int) := by omega
                  refine st_op (ev_indexArr rfl rfl hi70 hi71 arr31 (o' := k) (by omega)) rfl rfl rfl ?_
                  obtain ⟨H72, he73, H72n, hB74, f75⟩ := mem_storeC (x := (g46 (8 + k))) (k := k) size2 hCk (by omega)
                  refine st_op0 (he73 _ _ _ _ _ _ _ _ _ rfl rfl) rfl rfl ?_
                  have hB76 := (f75 p (by omega)).trans hBk
                  have hx77 : Ext H H72 := Ext.step hxk (b := b7) (by have := (hxk).1; omega) (by omega) f75
                  try show aw _ _ _ _ _ _
                  refine aw_reg ?_
                  refine st_op (ev_move rfl) rfl rfl rfl ?_
                  refine st_op (ev_int64 (c := (k : Int) + 1) rfl rfl rfl (by omega) (by omega)) rfl rfl rfl ?_
                  refine st_op (ev_assign rfl) rfl rfl rfl ?_
                  try show aw _ _ _ _ _ _
                  refine aw_keep [1, 6, 7, 8, 10] (l' := (.cons 1 (.slice (some ⟨b21, o22, none⟩) ops.length c) (.cons 6 (.pointer (some ⟨p, 0, none⟩)) (.cons 7 (.pointer (some ⟨b7, 0, none⟩)) (.cons 8 (.int .i64 (i : Int)) (.cons 10 (.int .i64 ((k : Int) + 1)) .nil)))))) (by repeat (first | exact Up.done | refine Up.then ?_ | refine Up.inBlock ?_)) rfl ?_
                  exact ih54 (k + 1, (upd m2 (k) (g46 (8 + k))), H72) ⟨(show 1 ≤ (k + 1) from by omega), (show (k + 1) ≤ 8 from by omega), (show H72.blk p = some ⟨Cells 16 g46, 16, false, false⟩ from hB76), (show H72.blk b7 = some ⟨Cells 8 (upd m2 (k) (g46 (8 + k))), 8, false, false⟩ from hB74), (show ∀ j, 1 ≤ j → j ≤ 7 → (upd m2 (k) (g46 (8 + k))) j ≤ g46 (8 + j) from fun j h1 h2 => by by_cases h : j = k; (subst h; rw [upd_self]; exact Int.le_refl _); (rw [upd_ne _ _ h]; exact hmk j h1 h2)), (show Ext H H72 from hx77), (show H43.next ≤ H72.next from by omega)⟩ (by simp only; omega)
            · rw [Bool.not_eq_true] at hc55; rw [hc55]
              rw [if_neg Bool.false_ne_true]
              have hc55 := of_decide_eq_false hc55
              refine aw_exit ?_
              try show aw _ _ _ _ _ _
              refine aw_reg ?_
              refine st_op (ev_move rfl) rfl rfl rfl ?_
              refine st_op (ev_int64 (c := (i : Int) + 1) rfl rfl rfl (by omega) (by omega)) rfl rfl rfl ?_
              refine st_op (ev_assign rfl) rfl rfl rfl ?_
              try show aw _ _ _ _ _ _
              refine aw_keep [1, 6, 7, 8] (l' := (.cons 1 (.slice (some ⟨b21, o22, none⟩) ops.length c) (.cons 6 (.pointer (some ⟨p, 0, none⟩)) (.cons 7 (.pointer (some ⟨b7, 0, none⟩)) (.cons 8 (.int .i64 ((i : Int) + 1)) .nil))))) (by repeat (first | exact Up.done | refine Up.then ?_ | refine Up.inBlock ?_)) rfl ?_
              exact ih14 (i + 1, g46, m2, Hk) ⟨(show (i + 1) ≤ ops.length from by omega), (show Hk.blk p = some ⟨Cells 16 g46, 16, false, false⟩ from hBk), (show Hk.blk b7 = some ⟨Cells 8 m2, 8, false, false⟩ from hCk), (show TInv g46 from hI48), (show ∀ j, 1 ≤ j → j ≤ 7 → m2 j ≤ g46 (8 + j) from hmk), (show Ext H Hk from hxk), (show p < Hk.next from by omega), (show b7 < Hk.next from by omega)⟩ (by simp only; omega)
          · rw [Bool.not_eq_true] at hc41; rw [hc41]
            rw [if_neg Bool.false_ne_true]
            have hc41 := ne_of_beq_false hc41
            refine aw_seq ?_
            refine aw_reg ?_
            refine st_op (ev_int rfl rfl rfl) rfl rfl rfl ?_
            refine st_op (ev_assign rfl) rfl rfl rfl ?_
            try show aw _ _ _ _ _ _
            refine aw_cond (t := x19.kind == 1) rfl ?_
            by_cases hc78 : (x19.kind == 1) = true
            · rw [hc78]
              rw [if_pos rfl]
              have hc78 := eq_of_beq hc78
              refine aw_reg ?_
              refine st_op (ev_move rfl) rfl rfl rfl ?_
              refine st_op (ev_fieldAddr rfl fa33_1 (o' := 1) rfl) rfl rfl rfl ?_
              refine st_op (ev_load rfl (lvar_one one3 hB35 rfl)) rfl rfl rfl ?_
              refine st_op (ev_fieldAddr rfl fa33_2 (o' := 2) rfl) rfl rfl rfl ?_
              refine st_op (ev_load rfl (lvar_one one2 hB35 rfl)) rfl rfl rfl ?_
              refine st_call rfl rfl rfl ent14 rfl rfl rfl ?_
              obtain ⟨v79, H80, hs81, hx82, g83, hB84, hI85, hM86⟩ := no_spec H33 p g x19.id x19.i hB37 (by omega) hI
              have hx82n := hx82.1
              refine ⟨_, _, hs81, ?_⟩
              have hx87 : Ext H H80 := Ext.ext1 hx40 hx82 (by omega)
              have hB88 := (hx82.2 b7 (by omega) (by omega)).trans hB38
              have hr89 := RowIn.next hr39 hx82.1 (hx82.2 b21 hr39.1 (RowIn.ne hr39 hB37 (by decide)))
              have hB90 := (hx82.2 b24 (by omega) (by omega)).trans hB35
              try show aw _ _ _ _ _ _
              refine aw_seq ?_
              refine aw_reg ?_
              refine st_op (ev_assign rfl) rfl rfl rfl ?_
              try show aw _ _ _ _ _ _
              refine aw_block ?_
              have hm1 : ∀ j, 1 ≤ j → j ≤ 7 → m j ≤ g83 (8 + j) := fun j a b => Int.le_trans (hm j a b) (hM86 j a b)
              refine aw_keep [1, 6, 7, 8, 10] (l' := (.cons 1 (.slice (some ⟨b21, o22, none⟩) ops.length c) (.cons 6 (.pointer (some ⟨p, 0, none⟩)) (.cons 7 (.pointer (some ⟨b7, 0, none⟩)) (.cons 8 (.int .i64 (i : Int)) (.cons 10 (.int .i64 1) .nil)))))) (by repeat (first | exact Up.done | refine Up.then ?_ | refine Up.inBlock ?_)) rfl ?_
              refine aw_iter (α := Nat × (Nat → Int) × Heap) (fun a => 8 - a.1) (fun a => (.cons 1 (.slice (some ⟨b21, o22, none⟩) ops.length c) (.cons 6 (.pointer (some ⟨p, 0, none⟩)) (.cons 7 (.pointer (some ⟨b7, 0, none⟩)) (.cons 8 (.int .i64 (i : Int)) (.cons 10 (.int .i64 (a.1 : Int)) .nil)))))) (fun a => a.2.2) (fun a => (1 ≤ a.1) ∧ (a.1 ≤ 8) ∧ (a.2.2.blk p = some ⟨Cells 16 g83, 16, false, false⟩) ∧ (a.2.2.blk b7 = some ⟨Cells 8 a.2.1, 8, false, false⟩) ∧ (∀ j, 1 ≤ j → j ≤ 7 → a.2.1 j ≤ g83 (8 + j)) ∧ (Ext H a.2.2) ∧ (H80.next ≤ a.2.2.next)) (1, m, H80) ⟨(show 1 ≤ 1 from by omega), (show 1 ≤ 8 from by omega), (show H80.blk p = some ⟨Cells 16 g83, 16, false, false⟩ from hB84), (show H80.blk b7 = some ⟨Cells 8 m, 8, false, false⟩ from hB88), (show ∀ j, 1 ≤ j → j ≤ 7 → m j ≤ g83 (8 + j) from hm1), (show Ext H H80 from hx87), (show H80.next ≤ H80.next from Nat.le_refl _)⟩ ?_
              rintro ⟨k, m2, Hk⟩ ⟨hk1, hk2, hBk, hCk, hmk, hxk, hnk⟩ ih91
              replace hk1 : 1 ≤ k := hk1
              replace hk2 : k ≤ 8 := hk2
              replace hBk : Hk.blk p = some ⟨Cells 16 g83, 16, false, false⟩ := hBk
              replace hCk : Hk.blk b7 = some ⟨Cells 8 m2, 8, false, false⟩ := hCk
              replace hmk : ∀ j, 1 ≤ j → j ≤ 7 → m2 j ≤ g83 (8 + j) := hmk
              replace hxk : Ext H Hk := hxk
              replace hnk : H80.next ≤ Hk.next := hnk
              show aw _ _ _ (RL _ (.cons 1 (.slice (some ⟨b21, o22, none⟩) ops.length c) (.cons 6 (.pointer (some ⟨p, 0, none⟩)) (.cons 7 (.pointer (some ⟨b7, 0, none⟩)) (.cons 8 (.int .i64 (i : Int)) (.cons 10 (.int .i64 (k : Int)) .nil)))))) Hk _
              refine aw_seq ?_
              refine aw_seq ?_
              refine aw_reg ?_
              refine st_op (ev_move rfl) rfl rfl rfl ?_
              refine st_op (ev_int rfl rfl rfl) rfl rfl rfl ?_
              try show aw _ _ _ _ _ _
              refine aw_cond (t := decide ((k : Int) ≤ 7)) rfl ?_
              by_cases hc92 : (decide ((k : Int) ≤ 7)) = true
              · rw [hc92]
                rw [if_pos rfl]
                have hc92 := of_decide_eq_true hc92
                refine aw_skip ?_
                try show aw _ _ _ _ _ _
                refine aw_seq ?_
                refine aw_block ?_
                refine aw_seq ?_
                refine aw_seq ?_
                refine aw_marks (fun b => b < Hk.next) [(false, false), (false, false), (false, true), (false, false), (false, false), (true, false), (false, false), (false, false), (false, false), (false, false), (false, false), (false, false), (false, false), (false, false), (false, false), (false, false)] mixed (by kernel_rfl) (by kernel_rfl) ?_
                refine sm_op (ev_move rfl) rfl rfl rfl ?_
                refine sm_op (ev_move rfl) rfl rfl rfl ?_
                refine sm_call rfl rfl rfl ent12 rfl rfl rfl ?_
                have hT93 := hI85 k (by omega) (by omega)
                obtain ⟨_, _, hs94, hs94v, hs94h⟩ := match_spec Hk p g83 k hBk hI85 (by omega) (by omega)
                rw [hs94v, hs94h] at hs94; clear hs94v hs94h
                refine ⟨_, _, hs94, (fun _ _ _ => rfl), ?_⟩
                refine sm_op (ev_move rfl) rfl rfl rfl ?_
                have hi95 : 0 ≤ (k : Int) := by omega
                have hi96 : (k : Int) < ((8 : Nat) : Int) := by omega
                refine sm_op (ev_indexArr rfl rfl hi95 hi96 arr31 (o' := k) (by omega)) rfl rfl rfl ?_
                have hT97 := hmk k (by omega) (by omega)
                have hl98 := lvar_cells one2 hCk (k := k) (by omega)
                refine sm_read (ev_load rfl hl98) rfl rfl rfl (fun b hb => by cases hb; dsimp only; omega) ?_
                refine sm_op (ev_int rfl rfl rfl) rfl rfl rfl ?_
                refine sm_op (ev_move rfl) rfl rfl rfl ?_
                refine sm_bool 71 rfl (fun hb99 => ?_) (fun hb99 => ?_)
                ·
                  have hb99 := of_decide_eq_true hb99
                  refine sm_skip rfl rfl rfl ?_
                  refine sm_skip rfl rfl rfl ?_
                  refine sm_skip rfl rfl rfl ?_
                  refine sm_skip rfl rfl rfl ?_
                  refine sm_skip rfl rfl rfl ?_
                  refine sm_skip rfl rfl rfl ?_
                  refine sm_skip rfl rfl rfl ?_
                  refine sm_op (ev_pickT rfl rfl) rfl rfl rfl ?_
                  try show aw _ _ _ _ _ _
                  refine aw_cond (t := true) rfl ?_
                  try show aw _ _ _ _ _ _
                  refine aw_seq ?_
                  refine aw_reg ?_
                  refine st_op (ev_assign rfl) rfl rfl rfl ?_
                  try show aw _ _ _ _ _ _
                  refine aw_ret ?_
                  first | exact ⟨_, rfl, rfl⟩ | (exfalso; omega)
                ·
                  have hb99 := of_decide_eq_false hb99
                  refine sm_op (ev_move rfl) rfl rfl rfl ?_
                  refine sm_op (ev_move rfl) rfl rfl rfl ?_
                  refine sm_call rfl rfl rfl ent11 rfl rfl rfl ?_
                  have hT100 := hI85 k (by omega) (by omega)
                  obtain ⟨_, _, hs101, hs101v, hs101h⟩ := next_spec Hk p g83 k hBk hI85 (by omega) (by omega)
                  rw [hs101v, hs101h] at hs101; clear hs101v hs101h
                  refine ⟨_, _, hs101, (fun _ _ _ => rfl), ?_⟩
                  refine sm_op (ev_move rfl) rfl rfl rfl ?_
                  refine sm_op (ev_move rfl) rfl rfl rfl ?_
                  refine sm_call rfl rfl rfl ent12 rfl rfl rfl ?_
                  have hT102 := hI85 k (by omega) (by omega)
                  obtain ⟨_, _, hs103, hs103v, hs103h⟩ := match_spec Hk p g83 k hBk hI85 (by omega) (by omega)
                  rw [hs103v, hs103h] at hs103; clear hs103v hs103h
                  refine ⟨_, _, hs103, (fun _ _ _ => rfl), ?_⟩
                  refine sm_op (ev_int rfl rfl rfl) rfl rfl rfl ?_
                  refine sm_op (ev_pickF rfl rfl) rfl rfl rfl ?_
                  try show aw _ _ _ _ _ _
                  refine aw_cond (t := decide ((g83 (k)) ≤ (g83 (8 + k)))) rfl ?_
                  by_cases hc104 : (decide ((g83 (k)) ≤ (g83 (8 + k)))) = true
                  · rw [hc104]
                    rw [if_pos rfl]
                    have hc104 := of_decide_eq_true hc104
                    refine aw_seq ?_
                    refine aw_reg ?_
                    refine st_op (ev_assign rfl) rfl rfl rfl ?_
                    try show aw _ _ _ _ _ _
                    refine aw_ret ?_
                    first | exact ⟨_, rfl, rfl⟩ | (exfalso; omega)
                  · rw [Bool.not_eq_true] at hc104; rw [hc104]
                    rw [if_neg Bool.false_ne_true]
                    have hc104 := of_decide_eq_false hc104
                    refine aw_skip ?_
                    try show aw _ _ _ _ _ _
                    refine aw_reg ?_
                    refine st_op (ev_move rfl) rfl rfl rfl ?_
                    refine st_op (ev_move rfl) rfl rfl rfl ?_
                    refine st_op (ev_move rfl) rfl rfl rfl ?_
                    refine st_call rfl rfl rfl ent12 rfl rfl rfl ?_
                    have hT105 := hI85 k (by omega) (by omega)
                    obtain ⟨_, _, hs106, hs106v, hs106h⟩ := match_spec Hk p g83 k hBk hI85 (by omega) (by omega)
                    rw [hs106v, hs106h] at hs106; clear hs106v hs106h
                    refine ⟨_, _, hs106, ?_⟩
                    have hi107 : 0 ≤ (k : Int) := by omega
                    have hi108 : (k : Int) < ((8 : Nat) : Int) := by omega
                    refine st_op (ev_indexArr rfl rfl hi107 hi108 arr31 (o' := k) (by omega)) rfl rfl rfl ?_
                    obtain ⟨H109, he110, H109n, hB111, f112⟩ := mem_storeC (x := (g83 (8 + k))) (k := k) size2 hCk (by omega)
                    refine st_op0 (he110 _ _ _ _ _ _ _ _ _ rfl rfl) rfl rfl ?_
                    have hB113 := (f112 p (by omega)).trans hBk
                    have hx114 : Ext H H109 := Ext.step hxk (b := b7) (by have := (hxk).1; omega) (by omega) f112
                    try show aw _ _ _ _ _ _
                    refine aw_reg ?_
                    refine st_op (ev_move rfl) rfl rfl rfl ?_
                    refine st_op (ev_int64 (c := (k : Int) + 1) rfl rfl rfl (by omega) (by omega)) rfl rfl rfl ?_
                    refine st_op (ev_assign rfl) rfl rfl rfl ?_
                    try show aw _ _ _ _ _ _
                    refine aw_keep [1, 6, 7, 8, 10] (l' := (.cons 1 (.slice (some ⟨b21, o22, none⟩) ops.length c) (.cons 6 (.pointer (some ⟨p, 0, none⟩)) (.cons 7 (.pointer (some ⟨b7, 0, none⟩)) (.cons 8 (.int .i64 (i : Int)) (.cons 10 (.int .i64 ((k : Int) + 1)) .nil)))))) (by repeat (first | exact Up.done | refine Up.then ?_ | refine Up.inBlock ?_)) rfl ?_
                    exact ih91 (k + 1, (upd m2 (k) (g83 (8 + k))), H109) ⟨(show 1 ≤ (k + 1) from by omega), (show (k + 1) ≤ 8 from by omega), (show H109.blk p = some ⟨Cells 16 g83, 16, false, false⟩ from hB113), (show H109.blk b7 = some ⟨Cells 8 (upd m2 (k) (g83 (8 + k))), 8, false, false⟩ from hB111), (show ∀ j, 1 ≤ j → j ≤ 7 → (upd m2 (k) (g83 (8 + k))) j ≤ g83 (8 + j) from fun j h1 h2 => by by_cases h : j = k; (subst h; rw [upd_self]; exact Int.le_refl _); (rw [upd_ne _ _ h]; exact hmk j h1 h2)), (show Ext H H109 from hx114), (show H80.next ≤ H109.next from by omega)⟩ (by simp only; omega)
              · rw [Bool.not_eq_true] at hc92; rw [hc92]
                rw [if_neg Bool.false_ne_true]
                have hc92 := of_decide_eq_false hc92
                refine aw_exit ?_
                try show aw _ _ _ _ _ _
                refine aw_reg ?_
                refine st_op (ev_move rfl) rfl rfl rfl ?_
                refine st_op (ev_int64 (c := (i : Int) + 1) rfl rfl rfl (by omega) (by omega)) rfl rfl rfl ?_
                refine st_op (ev_assign rfl) rfl rfl rfl ?_
                try show aw _ _ _ _ _ _
                refine aw_keep [1, 6, 7, 8] (l' := (.cons 1 (.slice (some ⟨b21, o22, none⟩) ops.length c) (.cons 6 (.pointer (some ⟨p, 0, none⟩)) (.cons 7 (.pointer (some ⟨b7, 0, none⟩)) (.cons 8 (.int .i64 ((i : Int) + 1)) .nil))))) (by repeat (first | exact Up.done | refine Up.then ?_ | refine Up.inBlock ?_)) rfl ?_
                exact ih14 (i + 1, g83, m2, Hk) ⟨(show (i + 1) ≤ ops.length from by omega), (show Hk.blk p = some ⟨Cells 16 g83, 16, false, false⟩ from hBk), (show Hk.blk b7 = some ⟨Cells 8 m2, 8, false, false⟩ from hCk), (show TInv g83 from hI85), (show ∀ j, 1 ≤ j → j ≤ 7 → m2 j ≤ g83 (8 + j) from hmk), (show Ext H Hk from hxk), (show p < Hk.next from by omega), (show b7 < Hk.next from by omega)⟩ (by simp only; omega)
            · rw [Bool.not_eq_true] at hc78; rw [hc78]
              rw [if_neg Bool.false_ne_true]
              have hc78 := ne_of_beq_false hc78
              refine aw_reg ?_
              refine st_op (ev_move rfl) rfl rfl rfl ?_
              refine st_op (ev_fieldAddr rfl fa33_1 (o' := 1) rfl) rfl rfl rfl ?_
              refine st_op (ev_load rfl (lvar_one one3 hB35 rfl)) rfl rfl rfl ?_
              refine st_op (ev_fieldAddr rfl fa33_2 (o' := 2) rfl) rfl rfl rfl ?_
              refine st_op (ev_load rfl (lvar_one one2 hB35 rfl)) rfl rfl rfl ?_
              refine st_call rfl rfl rfl ent9 rfl rfl rfl ?_
              obtain ⟨v115, H116, hs117, hx118, g119, hB120, hI121, hM122⟩ := sent_spec H33 p g x19.id x19.i hB37 (by omega) hI
              have hx118n := hx118.1
              refine ⟨_, _, hs117, ?_⟩
              have hx123 : Ext H H116 := Ext.ext1 hx40 hx118 (by omega)
              have hB124 := (hx118.2 b7 (by omega) (by omega)).trans hB38
              have hr125 := RowIn.next hr39 hx118.1 (hx118.2 b21 hr39.1 (RowIn.ne hr39 hB37 (by decide)))
              have hB126 := (hx118.2 b24 (by omega) (by omega)).trans hB35
              try show aw _ _ _ _ _ _
              refine aw_seq ?_
              refine aw_reg ?_
              refine st_op (ev_assign rfl) rfl rfl rfl ?_
              try show aw _ _ _ _ _ _
              refine aw_block ?_
              have hm1 : ∀ j, 1 ≤ j → j ≤ 7 → m j ≤ g119 (8 + j) := fun j a b => Int.le_trans (hm j a b) (hM122 j a b)
              refine aw_keep [1, 6, 7, 8, 10] (l' := (.cons 1 (.slice (some ⟨b21, o22, none⟩) ops.length c) (.cons 6 (.pointer (some ⟨p, 0, none⟩)) (.cons 7 (.pointer (some ⟨b7, 0, none⟩)) (.cons 8 (.int .i64 (i : Int)) (.cons 10 (.int .i64 1) .nil)))))) (by repeat (first | exact Up.done | refine Up.then ?_ | refine Up.inBlock ?_)) rfl ?_
              refine aw_iter (α := Nat × (Nat → Int) × Heap) (fun a => 8 - a.1) (fun a => (.cons 1 (.slice (some ⟨b21, o22, none⟩) ops.length c) (.cons 6 (.pointer (some ⟨p, 0, none⟩)) (.cons 7 (.pointer (some ⟨b7, 0, none⟩)) (.cons 8 (.int .i64 (i : Int)) (.cons 10 (.int .i64 (a.1 : Int)) .nil)))))) (fun a => a.2.2) (fun a => (1 ≤ a.1) ∧ (a.1 ≤ 8) ∧ (a.2.2.blk p = some ⟨Cells 16 g119, 16, false, false⟩) ∧ (a.2.2.blk b7 = some ⟨Cells 8 a.2.1, 8, false, false⟩) ∧ (∀ j, 1 ≤ j → j ≤ 7 → a.2.1 j ≤ g119 (8 + j)) ∧ (Ext H a.2.2) ∧ (H116.next ≤ a.2.2.next)) (1, m, H116) ⟨(show 1 ≤ 1 from by omega), (show 1 ≤ 8 from by omega), (show H116.blk p = some ⟨Cells 16 g119, 16, false, false⟩ from hB120), (show H116.blk b7 = some ⟨Cells 8 m, 8, false, false⟩ from hB124), (show ∀ j, 1 ≤ j → j ≤ 7 → m j ≤ g119 (8 + j) from hm1), (show Ext H H116 from hx123), (show H116.next ≤ H116.next from Nat.le_refl _)⟩ ?_
              rintro ⟨k, m2, Hk⟩ ⟨hk1, hk2, hBk, hCk, hmk, hxk, hnk⟩ ih127
              replace hk1 : 1 ≤ k := hk1
              replace hk2 : k ≤ 8 := hk2
              replace hBk : Hk.blk p = some ⟨Cells 16 g119, 16, false, false⟩ := hBk
              replace hCk : Hk.blk b7 = some ⟨Cells 8 m2, 8, false, false⟩ := hCk
              replace hmk : ∀ j, 1 ≤ j → j ≤ 7 → m2 j ≤ g119 (8 + j) := hmk
              replace hxk : Ext H Hk := hxk
              replace hnk : H116.next ≤ Hk.next := hnk
              show aw _ _ _ (RL _ (.cons 1 (.slice (some ⟨b21, o22, none⟩) ops.length c) (.cons 6 (.pointer (some ⟨p, 0, none⟩)) (.cons 7 (.pointer (some ⟨b7, 0, none⟩)) (.cons 8 (.int .i64 (i : Int)) (.cons 10 (.int .i64 (k : Int)) .nil)))))) Hk _
              refine aw_seq ?_
              refine aw_seq ?_
              refine aw_reg ?_
              refine st_op (ev_move rfl) rfl rfl rfl ?_
              refine st_op (ev_int rfl rfl rfl) rfl rfl rfl ?_
              try show aw _ _ _ _ _ _
              refine aw_cond (t := decide ((k : Int) ≤ 7)) rfl ?_
              by_cases hc128 : (decide ((k : Int) ≤ 7)) = true
              · rw [hc128]
                rw [if_pos rfl]
                have hc128 := of_decide_eq_true hc128
                refine aw_skip ?_
                try show aw _ _ _ _ _ _
                refine aw_seq ?_
                refine aw_block ?_
                refine aw_seq ?_
                refine aw_seq ?_
                refine aw_marks (fun b => b < Hk.next) [(false, false), (false, false), (false, true), (false, false), (false, false), (true, false), (false, false), (false, false), (false, false), (false, false), (false, false), (false, false), (false, false), (false, false), (false, false), (false, false)] mixed (by kernel_rfl) (by kernel_rfl) ?_
                refine sm_op (ev_move rfl) rfl rfl rfl ?_
                refine sm_op (ev_move rfl) rfl rfl rfl ?_
                refine sm_call rfl rfl rfl ent12 rfl rfl rfl ?_
                have hT129 := hI121 k (by omega) (by omega)
                obtain ⟨_, _, hs130, hs130v, hs130h⟩ := match_spec Hk p g119 k hBk hI121 (by omega) (by omega)
                rw [hs130v, hs130h] at hs130; clear hs130v hs130h
                refine ⟨_, _, hs130, (fun _ _ _ => rfl), ?_⟩
                refine sm_op (ev_move rfl) rfl rfl rfl ?_
                have hi131 : 0 ≤ (k : Int) := by omega
                have hi132 : (k : Int) < ((8 : Nat) : Int) := by omega
                refine sm_op (ev_indexArr rfl rfl hi131 hi132 arr31 (o' := k) (by omega)) rfl rfl rfl ?_
                have hT133 := hmk k (by omega) (by omega)
                have hl134 := lvar_cells one2 hCk (k := k) (by omega)
                refine sm_read (ev_load rfl hl134) rfl rfl rfl (fun b hb => by cases hb; dsimp only; omega) ?_
                refine sm_op (ev_int rfl rfl rfl) rfl rfl rfl ?_
                refine sm_op (ev_move rfl) rfl rfl rfl ?_
                refine sm_bool 71 rfl (fun hb135 => ?_) (fun hb135 => ?_)
                ·
                  have hb135 := of_decide_eq_true hb135
                  refine sm_skip rfl rfl rfl ?_
                  refine sm_skip rfl rfl rfl ?_
                  refine sm_skip rfl rfl rfl ?_
                  refine sm_skip rfl rfl rfl ?_
                  refine sm_skip rfl rfl rfl ?_
                  refine sm_skip rfl rfl rfl ?_
                  refine sm_skip rfl rfl rfl ?_
                  refine sm_op (ev_pickT rfl rfl) rfl rfl rfl ?_
                  try show aw _ _ _ _ _ _
                  refine aw_cond (t := true) rfl ?_
                  try show aw _ _ _ _ _ _
                  refine aw_seq ?_
                  refine aw_reg ?_
                  refine st_op (ev_assign rfl) rfl rfl rfl ?_
                  try show aw _ _ _ _ _ _
                  refine aw_ret ?_
                  first | exact ⟨_, rfl, rfl⟩ | (exfalso; omega)
                ·
                  have hb135 := of_decide_eq_false hb135
                  refine sm_op (ev_move rfl) rfl rfl rfl ?_
                  refine sm_op (ev_move rfl) rfl rfl rfl ?_
                  refine sm_call rfl rfl rfl ent11 rfl rfl rfl ?_
                  have hT136 := hI121 k (by omega) (by omega)
                  obtain ⟨_, _, hs137, hs137v, hs137h⟩ := next_spec Hk p g119 k hBk hI121 (by omega) (by omega)
                  rw [hs137v, hs137h] at hs137; clear hs137v hs137h
                  refine ⟨_, _, hs137, (fun _ _ _ => rfl), ?_⟩
                  refine sm_op (ev_move rfl) rfl rfl rfl ?_
                  refine sm_op (ev_move rfl) rfl rfl rfl ?_
                  refine sm_call rfl rfl rfl ent12 rfl rfl rfl ?_
                  have hT138 := hI121 k (by omega) (by omega)
                  obtain ⟨_, _, hs139, hs139v, hs139h⟩ := match_spec Hk p g119 k hBk hI121 (by omega) (by omega)
                  rw [hs139v, hs139h] at hs139; clear hs139v hs139h
                  refine ⟨_, _, hs139, (fun _ _ _ => rfl), ?_⟩
                  refine sm_op (ev_int rfl rfl rfl) rfl rfl rfl ?_
                  refine sm_op (ev_pickF rfl rfl) rfl rfl rfl ?_
                  try show aw _ _ _ _ _ _
                  refine aw_cond (t := decide ((g119 (k)) ≤ (g119 (8 + k)))) rfl ?_
                  by_cases hc140 : (decide ((g119 (k)) ≤ (g119 (8 + k)))) = true
                  · rw [hc140]
                    rw [if_pos rfl]
                    have hc140 := of_decide_eq_true hc140
                    refine aw_seq ?_
                    refine aw_reg ?_
                    refine st_op (ev_assign rfl) rfl rfl rfl ?_
                    try show aw _ _ _ _ _ _
                    refine aw_ret ?_
                    first | exact ⟨_, rfl, rfl⟩ | (exfalso; omega)
                  · rw [Bool.not_eq_true] at hc140; rw [hc140]
                    rw [if_neg Bool.false_ne_true]
                    have hc140 := of_decide_eq_false hc140
                    refine aw_skip ?_
                    try show aw _ _ _ _ _ _
                    refine aw_reg ?_
                    refine st_op (ev_move rfl) rfl rfl rfl ?_
                    refine st_op (ev_move rfl) rfl rfl rfl ?_
                    refine st_op (ev_move rfl) rfl rfl rfl ?_
                    refine st_call rfl rfl rfl ent12 rfl rfl rfl ?_
                    have hT141 := hI121 k (by omega) (by omega)
                    obtain ⟨_, _, hs142, hs142v, hs142h⟩ := match_spec Hk p g119 k hBk hI121 (by omega) (by omega)
                    rw [hs142v, hs142h] at hs142; clear hs142v hs142h
                    refine ⟨_, _, hs142, ?_⟩
                    have hi143 : 0 ≤ (k : Int) := by omega
                    have hi144 : (k : Int) < ((8 : Nat) : Int) := by omega
                    refine st_op (ev_indexArr rfl rfl hi143 hi144 arr31 (o' := k) (by omega)) rfl rfl rfl ?_
                    obtain ⟨H145, he146, H145n, hB147, f148⟩ := mem_storeC (x := (g119 (8 + k))) (k := k) size2 hCk (by omega)
                    refine st_op0 (he146 _ _ _ _ _ _ _ _ _ rfl rfl) rfl rfl ?_
                    have hB149 := (f148 p (by omega)).trans hBk
                    have hx150 : Ext H H145 := Ext.step hxk (b := b7) (by have := (hxk).1; omega) (by omega) f148
                    try show aw _ _ _ _ _ _
                    refine aw_reg ?_
                    refine st_op (ev_move rfl) rfl rfl rfl ?_
                    refine st_op (ev_int64 (c := (k : Int) + 1) rfl rfl rfl (by omega) (by omega)) rfl rfl rfl ?_
                    refine st_op (ev_assign rfl) rfl rfl rfl ?_
                    try show aw _ _ _ _ _ _
                    refine aw_keep [1, 6, 7, 8, 10] (l' := (.cons 1 (.slice (some ⟨b21, o22, none⟩) ops.length c) (.cons 6 (.pointer (some ⟨p, 0, none⟩)) (.cons 7 (.pointer (some ⟨b7, 0, none⟩)) (.cons 8 (.int .i64 (i : Int)) (.cons 10 (.int .i64 ((k : Int) + 1)) .nil)))))) (by repeat (first | exact Up.done | refine Up.then ?_ | refine Up.inBlock ?_)) rfl ?_
                    exact ih127 (k + 1, (upd m2 (k) (g119 (8 + k))), H145) ⟨(show 1 ≤ (k + 1) from by omega), (show (k + 1) ≤ 8 from by omega), (show H145.blk p = some ⟨Cells 16 g119, 16, false, false⟩ from hB149), (show H145.blk b7 = some ⟨Cells 8 (upd m2 (k) (g119 (8 + k))), 8, false, false⟩ from hB147), (show ∀ j, 1 ≤ j → j ≤ 7 → (upd m2 (k) (g119 (8 + k))) j ≤ g119 (8 + j) from fun j h1 h2 => by by_cases h : j = k; (subst h; rw [upd_self]; exact Int.le_refl _); (rw [upd_ne _ _ h]; exact hmk j h1 h2)), (show Ext H H145 from hx150), (show H116.next ≤ H145.next from by omega)⟩ (by simp only; omega)
              · rw [Bool.not_eq_true] at hc128; rw [hc128]
                rw [if_neg Bool.false_ne_true]
                have hc128 := of_decide_eq_false hc128
                refine aw_exit ?_
                try show aw _ _ _ _ _ _
                refine aw_reg ?_
                refine st_op (ev_move rfl) rfl rfl rfl ?_
                refine st_op (ev_int64 (c := (i : Int) + 1) rfl rfl rfl (by omega) (by omega)) rfl rfl rfl ?_
                refine st_op (ev_assign rfl) rfl rfl rfl ?_
                try show aw _ _ _ _ _ _
                refine aw_keep [1, 6, 7, 8] (l' := (.cons 1 (.slice (some ⟨b21, o22, none⟩) ops.length c) (.cons 6 (.pointer (some ⟨p, 0, none⟩)) (.cons 7 (.pointer (some ⟨b7, 0, none⟩)) (.cons 8 (.int .i64 ((i : Int) + 1)) .nil))))) (by repeat (first | exact Up.done | refine Up.then ?_ | refine Up.inBlock ?_)) rfl ?_
                exact ih14 (i + 1, g119, m2, Hk) ⟨(show (i + 1) ≤ ops.length from by omega), (show Hk.blk p = some ⟨Cells 16 g119, 16, false, false⟩ from hBk), (show Hk.blk b7 = some ⟨Cells 8 m2, 8, false, false⟩ from hCk), (show TInv g119 from hI121), (show ∀ j, 1 ≤ j → j ≤ 7 → m2 j ≤ g119 (8 + j) from hmk), (show Ext H Hk from hxk), (show p < Hk.next from by omega), (show b7 < Hk.next from by omega)⟩ (by simp only; omega)
        · rw [Bool.not_eq_true] at hc16; rw [hc16]
          rw [if_neg Bool.false_ne_true]
          have hc16 := of_decide_eq_false hc16
          refine aw_exit ?_
          try show aw _ _ _ _ _ _
          refine aw_seq ?_
          refine aw_reg ?_
          refine st_op (ev_assign rfl) rfl rfl rfl ?_
          try show aw _ _ _ _ _ _
          refine aw_ret ?_
          first | exact ⟨_, rfl, rfl⟩ | (exfalso; omega)
      ·
        have hb15 := of_decide_eq_false hb15
        refine st_skip rfl rfl rfl ?_
        refine st_skip rfl rfl rfl ?_
        refine st_op (ev_pickF rfl rfl) rfl rfl rfl ?_
        try show aw _ _ _ _ _ _
        refine aw_cond (t := false) rfl ?_
        try show aw _ _ _ _ _ _
        refine aw_exit ?_
        try show aw _ _ _ _ _ _
        refine aw_seq ?_
        refine aw_reg ?_
        refine st_op (ev_assign rfl) rfl rfl rfl ?_
        try show aw _ _ _ _ _ _
        refine aw_ret ?_
        first | exact ⟨_, rfl, rfl⟩ | (exfalso; omega)
end Go.AM
