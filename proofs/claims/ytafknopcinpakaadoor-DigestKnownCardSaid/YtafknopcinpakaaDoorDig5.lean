/-
  flotillalaw05.works answers true; the digests, letters and numbers that DigestKnown names. Nothing that was there is changed.
  Conditions: as each theorem states them.
-/
import Derived.Test.YtafknopcinpakaaDoorDig2
import Derived.Test.YtafknopcinpakaaDoorDig4
import Derived.Test.YtafknopcinpakaaDoorErrNum
import Derived.Lib.SlBytesConst
namespace Go.Proofs.YtafknopcinpakaaDoor
open Go.RowKit Go.Extern.Stop Go.Stop Go.Extern
set_option linter.unusedVariables false
set_option linter.unusedSimpArgs false
set_option maxRecDepth 100000

theorem fnv_foobar : fnv 14695981039346656037 [102, 111, 111, 98, 97, 114] = 9625390261332436968 := by decide +kernel
theorem fnv_a : fnv 14695981039346656037 [97] = 12638187200555641996 := by decide +kernel
theorem tl_1 : strOfNums (tl 1) = ⟨#[97, 97, 97, 97, 97, 97, 97, 97, 97, 97, 97, 97, 98]⟩ := by decide +kernel
theorem tl_0 : strOfNums (tl 0) = ⟨#[97, 97, 97, 97, 97, 97, 97, 97, 97, 97, 97, 97, 97]⟩ := by decide +kernel
theorem tl_31 : strOfNums (tl 31) = ⟨#[97, 97, 97, 97, 97, 97, 97, 97, 97, 97, 97, 97, 55]⟩ := by decide +kernel
theorem tl_max : strOfNums (tl 18446744073709551615) = ⟨#[112, 55, 55, 55, 55, 55, 55, 55, 55, 55, 55, 55, 55]⟩ := by decide +kernel
theorem parse_b : parse ⟨#[97, 97, 97, 97, 97, 97, 97, 97, 97, 97, 97, 97, 98]⟩ = some 1 := by decide +kernel

theorem bytes_read (bs : List Int) (b : Nat) (w : World) (t : TypeId) (fr : Nat × Nat) (hb : w.heap[b]? = some (.cells (bs.map (Value.int .u8)).toArray t fr)) (h : ∀ x ∈ bs, 0 ≤ x ∧ x ≤ 255) :
    ∀ j, j < bs.length → 0 ≤ bs.getD j 0 ∧ bs.getD j 0 ≤ 255 ∧ ∃ b' off, some (⟨b, 0, none⟩ : Addr) = some ⟨b', off, none⟩ ∧ w.cell? ⟨b', off + j, none⟩ = some (.int .u8 (bs.getD j 0)) := by
  intro j hj
  have e : bs.getD j 0 = bs[j] := by simp [List.getD, hj]
  rw [e]
  refine ⟨(h _ (List.getElem_mem hj)).1, (h _ (List.getElem_mem hj)).2, b, 0, rfl, ?_⟩
  rw [Nat.zero_add, cell_of_row w b j _ t fr hb]
  simp [hj]
theorem dtext_at (x : Int) (s : ByteArray) (w : World) (h0 : 0 ≤ x) (h1 : x < 18446744073709551616) (hs : strOfNums (tl x) = s) : Calls Tryd.prog 6 #[.int .u64 x] w fun e w' => e = .returned (.string s) ∧ Below w.heap.size w w' := by
  subst hs; exact dtext x w h0 h1
theorem dof_at (A : Option Addr) (n c : Nat) (bs : List Int) (v : Int) (w : World) (hv : fnv 14695981039346656037 bs = v) (hn : bs.length = n) (hl : bs.length ≤ 140737488351232)
    (hr : ∀ j, j < bs.length → 0 ≤ bs.getD j 0 ∧ bs.getD j 0 ≤ 255 ∧ ∃ b off, A = some ⟨b, off, none⟩ ∧ w.cell? ⟨b, off + j, none⟩ = some (.int .u8 (bs.getD j 0))) :
    Calls Tryd.prog 5 #[.slice A n c] w fun e w' => e = .returned (.int .u64 v) ∧ Below w.heap.size w w' := by
  subst hv; exact dof A n c bs w hn hl hr
theorem parse_yes (w : World) : Calls Tryd.prog 7 #[.string ⟨#[97, 97, 97, 97, 97, 97, 97, 97, 97, 97, 97, 97, 98]⟩] w fun e w' => e = .returned (.tuple #[.int .u64 1, .nilIface]) ∧ Below w.heap.size w w' := by
  have h := dparse ⟨#[97, 97, 97, 97, 97, 97, 97, 97, 97, 97, 97, 97, 98]⟩ w rfl
  rw [parse_b] at h
  exact h
/-- What may not be parsed. -/
def noS (k : Nat) : ByteArray := ([⟨#[]⟩, ⟨#[97, 97, 97, 97, 97, 97, 97, 97, 97, 97, 97, 97]⟩, ⟨#[113, 97, 97, 97, 97, 97, 97, 97, 97, 97, 97, 97, 97]⟩, ⟨#[65, 97, 97, 97, 97, 97, 97, 97, 97, 97, 97, 97, 97]⟩, ⟨#[97, 97, 97, 97, 97, 97, 97, 97, 97, 97, 97, 97, 49]⟩, ⟨#[97, 97, 97, 97, 97, 97, 97, 97, 97, 97, 97, 97, 56]⟩, ⟨#[97, 97, 97, 97, 97, 97, 97, 97, 97, 97, 97, 97, 97, 97]⟩, ⟨#[55, 97, 97, 97, 97, 97, 97, 97, 97, 97, 97, 97, 97]⟩] : List ByteArray).getD k ⟨#[]⟩
theorem noS_bad : ∀ k, k < 8 → ((noS k).size = 13 ∧ parse (noS k) = none) ∨ ((noS k).size ≠ 13 ∧ (noS k).size ≤ 1000) := by decide +kernel
theorem parse_no (k : Nat) (hk : k < 8) (w : World) : Calls Tryd.prog 7 #[.string (noS k)] w fun e w' => e = .returned (.tuple #[.int .u64 0, .iface 45 (.int .i64 4)]) ∧ Below w.heap.size w w' := by
  rcases noS_bad k hk with ⟨h1, h2⟩ | ⟨h1, h2⟩
  · have h := dparse (noS k) w h1
    rw [h2] at h
    exact h
  · exact dparse_len (noS k) w h1 h2
theorem plain_yes (k : Int) (h1 : 1 ≤ k) (h2 : k < 37) (w : World) (hd : Door w) : Calls Tryd.prog 8 #[.iface 45 (.int .i64 k), .int .i64 k] w fun e w' => e = .returned (.bool true) ∧ Below w.heap.size w w' := by
  have h := plain_num k w hd
  have hn : numOf k = k := by unfold numOf; rw [if_pos ⟨h1, h2⟩]
  rw [hn] at h
  exact h

set_option maxHeartbeats 1000000 in
theorem works05 (w : World) : Calls Tryd.prog 4 #[] w fun e w' => e = .returned (.bool true) ∧ Below w.heap.size w w' := by
  have kc := fun (w : World) (C : Array Value) (n c : Nat) => Lib.run_convert_bytes_const (P := Tryd.prog) w 25 5 C n c Tryd.underlying25 Tryd.underlying5
  go_enter Tryd.func4, Tryd.ntmps4
  go_wp2_with (first | (go_at_call 7; refine (parse_yes _).mono ?_; rintro e w1 ⟨rfl, hb1⟩) | (go_at_call 5; refine (dof_at (some ⟨w1.heap.size, 0, none⟩) 6 6 _ _ _ fnv_foobar rfl (by simp) (bytes_read _ _ _ _ _ (by exact heap_alloc_at _ _ rfl) (by decide))).mono ?_; rintro e w2 ⟨rfl, hb2⟩) | (go_at_call 6; refine (dtext_at _ _ _ (by omega) (by omega) tl_1).mono ?_; rintro e w3 ⟨rfl, hb3⟩))
  go_ret
  exact ⟨rfl, thenK (thenK (allocB hb1 _) hb2) hb3⟩
end Go.Proofs.YtafknopcinpakaaDoor
