/-
  flotillakit.Num and flotillakit.Plain: what they answer of each of the program's errors.
  Conditions: for Plain, Door (errors.errorType holds what start-up lays).
-/
import Derived.Test.YtdcnojjcffkmaaaDoorErrPl
import Derived.Lib.Hide
import Derived.WideLaws
namespace Go.Proofs.YtdcnojjcffkmaaaDoor
open Go.RowKit Go.Extern.Stop Go.Stop Go.Extern

/-- What has been found among the numbers below n. -/
def fnd (k n : Int) : Int := if 1 ≤ k ∧ k < n then k else 0
/-- An error's number, as flotillakit tells it. -/
def numOf (k : Int) : Int := if 1 ≤ k ∧ k < 37 then k else -1
def Er.n : Er → Int
  | .no => 0
  | .num k => numOf k
  | .plc k _ => numOf k
theorem fnd_self (k : Int) : fnd k k = 0 := by unfold fnd; rw [if_neg (by omega)]
theorem fnd_one (k : Int) : fnd k 1 = 0 := by unfold fnd; rw [if_neg (by omega)]
theorem fnd_hit (k : Int) (h : 1 ≤ k) : fnd k (k + 1) = k := by unfold fnd; rw [if_pos (by omega)]
theorem fnd_miss (k n : Int) (h : k ≠ n) : fnd k (n + 1) = fnd k n := by unfold fnd; by_cases h1 : 1 ≤ k ∧ k < n; rw [if_pos h1, if_pos (by omega)]; rw [if_neg h1, if_neg (by omega)]
theorem fnd_end (k : Int) : (1 ≤ k ∧ k < 37 ∧ fnd k 37 = k ∧ numOf k = k) ∨ (fnd k 37 = 0 ∧ numOf k = -1) := by
  unfold fnd numOf; by_cases h : 1 ≤ k ∧ k < 37
  · exact .inl ⟨h.1, h.2, by rw [if_pos h], by rw [if_pos h]⟩
  · exact .inr ⟨by rw [if_neg h], by rw [if_neg h]⟩

set_option maxHeartbeats 1000000 in
theorem num_held (T : TypeId) (u : Value) (k : Int) (w : World)
    (hI : ∀ (n : Int) (W : World), Calls Tryd.prog 43 #[.iface T u, .iface 63 (.int .i64 n)] W fun e w' => e = .returned (.bool (k == n)) ∧ Below W.heap.size W w') :
    Calls Tryd.prog 23 #[.iface T u] w fun e w' => e = .returned (.int .i64 (numOf k)) ∧ Below w.heap.size w w' := by
  have HI := Lib.hid hI
  clear hI
  have h1 := fun W => run_eql_held_nil (P := Tryd.prog) W 32 T u (by kernel_rfl)
  go_enter Tryd.func23, Tryd.ntmps23
  go_wp2
  go_loopw [3, 4] (fun f i wr => ∃ n : Int, 1 ≤ n ∧ n ≤ 37 ∧ i = .int .i64 n ∧ f = .int .i64 (fnd k n) ∧ Below w.heap.size w wr) (fun _ i _ => (37 - intOf i).toNat)
  case atStart => exact ⟨1, by omega, by omega, rfl, by rw [fnd_one], Below.refl _ _⟩
  case round =>
    obtain ⟨n, hn1, hn2, rfl, rfl, hb⟩ := hrel
    by_cases hlt : n ≤ 36
    · by_cases hk : k = n
      · subst hk
        have hz := fnd_self k
        have he : (k == k) = true := by simp
        go_wp2_with (go_at_call 43; refine (HI.out _ _).mono ?_; rintro e w1 ⟨rfl, hb1⟩)
        go_roundw
        case rel => exact ⟨k + 1, by omega, by omega, rfl, by rw [fnd_hit k hn1], hb.trans (hb1.mono hb.size)⟩
        case measure => simp [intOf]; omega
      · have he : (k == n) = false := by simpa using hk
        go_wp2_with (go_at_call 43; refine (HI.out _ _).mono ?_; rintro e w1 ⟨rfl, hb1⟩)
        go_roundw
        case rel => exact ⟨n + 1, by omega, by omega, rfl, by rw [fnd_miss k n hk], hb.trans (hb1.mono hb.size)⟩
        case measure => simp [intOf]; omega
    · have hn : n = 37 := by omega
      subst hn
      rcases fnd_end k with ⟨hk1, hk2, hf, hN⟩ | ⟨hf, hN⟩
      · have HN := Lib.hid hN
        clear hN
        have hz : (k == 0) = false := by simp; omega
        go_wp2_with (go_at_call 43; refine (HI.out _ _).mono ?_; rintro e w1 ⟨rfl, hb1⟩)
        go_ret
        exact ⟨ret_int HN.out.symm, hb.trans (hb1.mono hb.size)⟩
      · have HN := Lib.hid hN
        clear hN
        go_wp2_with (go_at_call 43; refine (HI.out _ _).mono ?_; rintro e w1 ⟨rfl, hb1⟩)
        go_ret
        exact ⟨ret_int HN.out.symm, hb⟩

theorem num_no (w : World) : Calls Tryd.prog 23 #[.nilIface] w fun e w' => e = .returned (.int .i64 0) ∧ Below w.heap.size w w' := by
  go_enter Tryd.func23, Tryd.ntmps23
  go_wp2
  go_ret
  exact ⟨rfl, Below.refl _ _⟩

/-- flotillakit.Num of any of the program's errors. -/
theorem num_any (x : Er) (w : World) : Calls Tryd.prog 23 #[x.val] w fun e w' => e = .returned (.int .i64 x.n) ∧ Below w.heap.size w w' := by
  cases x with
  | no => exact num_no w
  | num k => exact num_held _ _ k w fun n W => is_num k n W
  | plc k i => exact num_held _ _ k w fun n W => is_plc k i n W

/-- Does it tell no place? -/
def Er.bare : Er → Bool
  | .plc _ _ => false
  | _ => true

theorem plain_miss (x : Er) (n : Int) (w : World) (h : x.n ≠ n) : Calls Tryd.prog 9 #[x.val, .int .i64 n] w fun e w' => e = .returned (.bool (x.n == n && x.bare)) ∧ Below w.heap.size w w' := by
  have he : (x.n == n) = false := by simpa using h
  have hfin := Lib.hid (show (x.n == n && x.bare) = false by rw [he]; rfl)
  clear h
  go_enter Tryd.func9, Tryd.ntmps9
  go_wp2_with (go_at_call 23; refine (num_any _ _).mono ?_; rintro e w1 ⟨rfl, hb1⟩)
  go_ret
  exact ⟨ret_bool hfin.out.symm, ((Below.refl _ _).alloc (Nat.le_refl _) _).trans (hb1.mono (by simp))⟩

theorem plain_no (w : World) : Calls Tryd.prog 9 #[.nilIface, .int .i64 0] w fun e w' => e = .returned (.bool true) ∧ Below w.heap.size w w' := by
  go_enter Tryd.func9, Tryd.ntmps9
  go_wp2_with (go_at_call 23; refine (num_no _).mono ?_; rintro e w1 ⟨rfl, hb1⟩)
  go_ret
  exact ⟨rfl, ((Below.refl _ _).alloc (Nat.le_refl _) _).trans (hb1.mono (by simp))⟩

theorem plain_num (k : Int) (w : World) (hd : Door w) : Calls Tryd.prog 9 #[.iface 63 (.int .i64 k), .int .i64 (numOf k)] w fun e w' => e = .returned (.bool true) ∧ Below w.heap.size w w' := by
  have h1 := fun W => run_eql_held_nil (P := Tryd.prog) W 32 63 (.int .i64 k) (by kernel_rfl)
  have he : (numOf k == numOf k) = true := by simp
  have HD := Lib.hid hd
  clear hd
  go_enter Tryd.func9, Tryd.ntmps9
  go_wp2_with (first | (go_at_call 23; refine (num_any (.num k) _).mono ?_; rintro e w1 ⟨rfl, hb1⟩) | (go_at_call 24; refine (as_num _ _ _ ((HD.out.below ((Below.refl _ _).alloc (Nat.le_refl _) _)).below hb1)).mono ?_; rintro e w2 ⟨rfl, hb2⟩))
  go_ret
  exact ⟨rfl, (((Below.refl _ _).alloc (Nat.le_refl _) _).trans (hb1.mono (by simp))).trans (hb2.mono (by have := hb1.size; simp at this; omega))⟩

theorem plain_plc (k i : Int) (w : World) (hd : Door w) : Calls Tryd.prog 9 #[.iface 67 (.agg #[.int .i64 k, .int .i64 i]), .int .i64 (numOf k)] w fun e w' => e = .returned (.bool false) ∧ Below w.heap.size w w' := by
  have h1 := fun W => run_eql_held_nil (P := Tryd.prog) W 32 67 (.agg #[.int .i64 k, .int .i64 i]) (by kernel_rfl)
  have he : (numOf k == numOf k) = true := by simp
  have HD := Lib.hid hd
  clear hd
  go_enter Tryd.func9, Tryd.ntmps9
  go_wp2_with (first | (go_at_call 23; refine (num_any (.plc k i) _).mono ?_; rintro e w1 ⟨rfl, hb1⟩) | (go_at_call 24; refine (as_plc _ _ w.heap.size (.int .i64 0) (.int .i64 0) _ ((HD.out.below ((Below.refl _ _).alloc (Nat.le_refl _) _)).below hb1) ((hb1.block _ (by simp)).trans (heap_alloc_new _ _))).mono ?_; rintro e w2 ⟨rfl, hb2, hc2⟩))
  go_ret
  exact ⟨rfl, (((Below.refl _ _).alloc (Nat.le_refl _) _).trans (hb1.mono (by simp))).trans hb2⟩

/-- flotillakit.Plain of any of the program's errors: the number fits, and no place is told. -/
theorem plain_any (x : Er) (n : Int) (w : World) (hd : Door w) : Calls Tryd.prog 9 #[x.val, .int .i64 n] w fun e w' => e = .returned (.bool (x.n == n && x.bare)) ∧ Below w.heap.size w w' := by
  by_cases h : x.n = n
  · subst h
    cases x with
    | no => exact (plain_no w)
    | num k => refine (plain_num k w hd).mono ?_; rintro e w' ⟨rfl, hb⟩; exact ⟨ret_bool (by simp [Er.bare]), hb⟩
    | plc k i => refine (plain_plc k i w hd).mono ?_; rintro e w' ⟨rfl, hb⟩; exact ⟨ret_bool (by simp [Er.bare]), hb⟩
  · exact plain_miss x n w h
end Go.Proofs.YtdcnojjcffkmaaaDoor
