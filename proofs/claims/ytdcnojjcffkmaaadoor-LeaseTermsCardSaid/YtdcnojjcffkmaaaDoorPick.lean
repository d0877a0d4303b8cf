/-
  flotillakit.Pick: a number from 0 to n - 1 out of any k (n from 1 to 2^40).
  Conditions: k fits int; 1 ≤ n ≤ 2^40.
-/
import Derived.Test.YtdcnojjcffkmaaaDoorProg
import Derived.WalkKit
import Derived.Lib.Hide
namespace Go.Proofs.YtdcnojjcffkmaaaDoor
open Go.RowKit
set_option linter.unusedVariables false
set_option linter.unusedSimpArgs false

theorem tmod_bd (k n : Int) (hn : 1 ≤ n) : -n < k.tmod n ∧ k.tmod n < n ∧ (0 ≤ k → k.tmod n = k % n) ∧ (k < 0 → k.tmod n = -((-k) % n)) := by
  have h1 : 0 ≤ k → k.tmod n = k % n := fun h => Int.tmod_eq_emod_of_nonneg h
  have h2 : k < 0 → k.tmod n = -((-k) % n) := fun h => by
    rw [← Int.tmod_eq_emod_of_nonneg (show 0 ≤ -k by omega), Int.neg_tmod, Int.neg_neg]
  have h3 := Int.emod_nonneg k (show n ≠ 0 by omega)
  have h4 := Int.emod_lt_of_pos k (show 0 < n by omega)
  have h5 := Int.emod_nonneg (-k) (show n ≠ 0 by omega)
  have h6 := Int.emod_lt_of_pos (-k) (show 0 < n by omega)
  refine ⟨?_, ?_, h1, h2⟩
  · rcases Int.lt_or_le k 0 with h | h
    · rw [h2 h]; omega
    · rw [h1 h]; omega
  · rcases Int.lt_or_le k 0 with h | h
    · rw [h2 h]; omega
    · rw [h1 h]; omega
theorem neg_emod_eq (k n : Int) (hn : 1 ≤ n) (hk : k < 0) : k % n = (if (-k) % n = 0 then 0 else n - (-k) % n) := by
  have h5 := Int.emod_nonneg (-k) (show n ≠ 0 by omega)
  have h6 := Int.emod_lt_of_pos (-k) (show 0 < n by omega)
  have h7 := Int.mul_ediv_add_emod (-k) n
  split
  · rename_i h
    have : k = n * (-((-k) / n)) := by rw [Int.mul_neg]; omega
    rw [this]; exact Int.mul_emod_right _ _
  · rename_i h
    have : k = (n - (-k) % n) + n * (-((-k) / n) - 1) := by rw [Int.mul_sub, Int.mul_neg]; omega
    have e := Int.add_mul_emod_self_left (n - (-k) % n) n (-((-k) / n) - 1)
    rw [← this] at e
    rw [e, Int.emod_eq_of_lt (by omega) (by omega)]
theorem pick_pos (k n : Int) (hn : 1 ≤ n) (h : 0 ≤ k.tmod n) : k.tmod n = k % n := by
  have hb := tmod_bd k n hn
  rcases Int.lt_or_le k 0 with hk | hk
  · have h2 := hb.2.2.2 hk
    have h5 := Int.emod_nonneg (-k) (show n ≠ 0 by omega)
    rw [neg_emod_eq k n hn hk, if_pos (by omega), h2]; omega
  · exact hb.2.2.1 hk
theorem pick_neg (k n : Int) (hn : 1 ≤ n) (h : k.tmod n < 0) : k.tmod n + n = k % n := by
  have hb := tmod_bd k n hn
  rcases Int.lt_or_le k 0 with hk | hk
  · have h2 := hb.2.2.2 hk
    rw [neg_emod_eq k n hn hk, if_neg (by omega), h2]; omega
  · have := hb.2.2.1 hk
    have h3 := Int.emod_nonneg k (show n ≠ 0 by omega)
    omega

theorem pick_ret {a b : Int} (h : a = b) : Ending.returned (.int .i64 a) = .returned (.int .i64 b) := by rw [h]
theorem pick_any (k n : Int) (w : World) (hk0 : -9223372036854775808 ≤ k) (hk1 : k ≤ 9223372036854775807) (hn : 1 ≤ n) (hn2 : n ≤ 1099511627776) :
    Calls Tryd.prog 19 #[.int .i64 k, .int .i64 n] w fun e w' => e = .returned (.int .i64 (k % n)) ∧ w' = w := by
  have hb := tmod_bd k n hn
  have hb1 := hb.1
  have hb2 := hb.2.1
  have hnz : (n == 0) = false := by simp; omega
  have hnm : ¬ n = -1 := by omega
  clear hb
  by_cases hs : k.tmod n < 0
  · have HP := Lib.hid (pick_neg k n hn hs)
    go_enter Tryd.func19, Tryd.ntmps19
    go_wp2
    go_ret
    exact ⟨pick_ret HP.out, rfl⟩
  · have HP := Lib.hid (pick_pos k n hn (by omega))
    go_enter Tryd.func19, Tryd.ntmps19
    go_wp2
    go_ret
    exact ⟨pick_ret HP.out, rfl⟩
end Go.Proofs.YtdcnojjcffkmaaaDoor
