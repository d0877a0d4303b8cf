/-
  digest.Text: what it answers; nothing that was there is changed.
  Conditions: as each theorem states them.
-/
import Derived.Test.YtafknopcinpakaaDoorDig1
import Derived.IntWalk
import Derived.Laws.BytesArg
namespace Go.Proofs.YtafknopcinpakaaDoor
open Go.RowKit Go.Extern.Stop Go.Stop Go.Extern
set_option linter.unusedVariables false
set_option linter.unusedSimpArgs false
set_option maxRecDepth 100000

def ltrs : ByteArray := ⟨#[97, 98, 99, 100, 101, 102, 103, 104, 105, 106, 107, 108, 109, 110, 111, 112, 113, 114, 115, 116, 117, 118, 119, 120, 121, 122, 50, 51, 52, 53, 54, 55]⟩
/-- The letter of five bits. -/
def ltr (h : Int) (k : Nat) : Int := ((ltrs.data.toList.getD (bits BinOp.and IntKind.u64 (h / 2 ^ (5 * k)) 31).toNat 0).toNat : Int)
/-- The letters, k of them laid, from the last one on. -/
def txt (h : Int) (k : Nat) : Array Value := ((List.range 13).map fun j => Value.int .u8 (if 12 - j < k then ltr h (12 - j) else 0)).toArray
theorem txt_set (h : Int) (k : Nat) (hk : k < 13) : (txt h k).setIfInBounds (12 - k) (.int .u8 (ltr h k)) = txt h (k + 1) := by
  have : k = 0 ∨ k = 1 ∨ k = 2 ∨ k = 3 ∨ k = 4 ∨ k = 5 ∨ k = 6 ∨ k = 7 ∨ k = 8 ∨ k = 9 ∨ k = 10 ∨ k = 11 ∨ k = 12 := by omega
  rcases this with rfl | rfl | rfl | rfl | rfl | rfl | rfl | rfl | rfl | rfl | rfl | rfl | rfl <;> rfl
theorem setCell_block {w : World} {g k : Nat} {cs : Array Value} {t : TypeId} {fr : Nat × Nat} (h : w.heap[g]? = some (.cells cs t fr)) (v : Value) : (w.setCell ⟨g, k, none⟩ v).heap[g]? = some (.cells (cs.setIfInBounds k v) t fr) := by
  obtain ⟨hlt, hk⟩ := Array.getElem?_eq_some_iff.1 h
  show (w.heap.modify g _)[g]? = _
  rw [Array.getElem?_eq_getElem (by rw [Array.size_modify]; exact hlt), Array.getElem_modify_self, hk]
  rfl

theorem and31 (v : Int) : 0 ≤ bits BinOp.and IntKind.u64 v 31 ∧ bits BinOp.and IntKind.u64 v 31 < 32 := by
  have h : (BitVec.ofInt 64 v &&& BitVec.ofInt 64 31).toNat ≤ 31 := by
    rw [BitVec.toNat_and]
    exact Nat.and_le_right
  have e : bits BinOp.and IntKind.u64 v 31 = IntKind.u64.wrap ((BitVec.ofInt 64 v &&& BitVec.ofInt 64 31).toNat : Int) := rfl
  rw [e, IntWalk.u64_in _ (by omega)]
  omega
/-- The letters of a number. -/
def tl (h : Int) : List Int := (List.range 13).map fun j => ltr h (12 - j)
theorem txt_13 (h : Int) : txt h 13 = ((tl h).map (Value.int .u8)).toArray := rfl
theorem ltr_at (i : Nat) (hi : i < ltrs.size) : ((ltrs[i]).toNat : Int) = ((ltrs.data.toList.getD i 0).toNat : Int) := by
  have h : i < ltrs.data.size := hi
  simp [ByteArray.getElem_eq_getElem_data, List.getD]
  rw [Array.getElem?_eq_getElem h]; rfl
set_option maxHeartbeats 1000000 in
theorem dtext (x : Int) (w : World) (h0 : 0 ≤ x) (h1 : x < 18446744073709551616) :
    Calls Tryd.prog 6 #[.int .u64 x] w fun e w' => e = .returned (.string (strOfNums (tl x))) ∧ Below w.heap.size w w' := by
  go_enter Tryd.func6, Tryd.ntmps6
  go_wp2
  go_loopw [4, 5] (fun _ i wr => ∃ k : Nat, k ≤ 13 ∧ i = .int .i64 k ∧ wr.heap[w.heap.size]? = some (.cells (txt x k) 44 (0, 0)) ∧ Below w.heap.size w wr) (fun _ i _ => 13 - (intOf i).toNat)
  case atStart => exact ⟨0, Nat.zero_le _, rfl, by exact newA _ _, (Below.refl _ _).alloc (Nat.le_refl _) _⟩
  case round =>
    obtain ⟨k, hk, rfl, hg, hb⟩ := hrel
    by_cases hlt : k < 13
    · have hk5 : (0 : Int) ≤ 5 * k := by omega
      have hk6 : (5 * k : Int) ≤ 60 := by omega
      have hz : (0 : Int) ≤ 12 - k := by omega
      have hix := and31 (x / 2 ^ (5 * k))
      have hcell : wr.cell? ⟨w.heap.size, 12 - k, none⟩ = some (.int .u8 0) := cellA hg (by simp only [txt, List.getElem?_toArray, List.getElem?_map]; rw [List.getElem?_range (by omega)]; simp; omega)
      have hfr : wr.frozen? ⟨w.heap.size, 12 - k, none⟩ = false := freeA hg
      have hS := txt_set x k hlt
      have hl : ltr x k = ((ltrs.data.toList.getD (bits BinOp.and IntKind.u64 (x / 2 ^ (5 * k)) 31).toNat 0).toNat : Int) := rfl
      rw [← ltr_at _ (by show _ < 32; omega)] at hl
      have HS := Lib.hid hS
      have HG := Lib.hid hg
      have HBl := Lib.hid hb
      have HL := Lib.hid hl
      clear hS hg hb hl
      go_wp2
      go_roundw
      case rel => exact ⟨k + 1, by omega, by go_num, by rw [← HS.out, HL.out]; exact setCell_block HG.out _, (HBl.out).setCell (by simp) _⟩
      case measure => simp [intOf]; omega
    · have hk' : k = 13 := by omega
      subst hk'
      rw [txt_13] at hg
      have hcv := run_convert_bytes_arg (P := Tryd.prog) wr 25 5 Tryd.underlying25 Tryd.underlying5 w.heap.size 0 13 13 (tl x) rfl (fun i hi => by rw [Nat.zero_add]; exact cellA hg (by have : i < (tl x).length := hi; simp [List.getD, this])) 9 Tryd.underlying9
      have HG := Lib.hid hg
      clear hg
      go_wp2
      go_ret
      exact ⟨rfl, hb⟩
end Go.Proofs.YtafknopcinpakaaDoor
