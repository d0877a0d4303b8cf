/-
  Lists of labels: what reads as one; flotillaref0.CopyLabels: a copy in memory of its own. Nothing that was there is changed.
  Conditions: as each theorem states them.
-/
import Derived.Test.YtafknopcinpakaaDoorProg
import Derived.Test.YtafknopcinpakaaDoorKeep
import Derived.Outline
import Derived.OwnWalk
import Derived.Laws.OwnMore
namespace Go.Proofs.YtafknopcinpakaaDoor
open Go.RowKit
set_option linter.unusedVariables false
set_option linter.unusedSimpArgs false
set_option maxRecDepth 100000

theorem addr_add (b o j : Nat) : (⟨b, o, none⟩ : Addr).add j = ⟨b, o + j, none⟩ := by unfold Addr.add; split <;> simp_all
/-- n elements of s cells each lie at A: their cells are xs. -/
def SlR (w : World) (A : Option Addr) (n s : Nat) (xs : List Value) : Prop :=
  xs.length = n * s ∧ ∀ j u, xs[j]? = some u → ∃ b off, A = some ⟨b, off, none⟩ ∧ w.cell? ⟨b, off + j, none⟩ = some u
theorem SlR.below {w w' : World} {A : Option Addr} {n s : Nat} {xs : List Value} (h : SlR w A n s xs) (hb : Below w.heap.size w w') : SlR w' A n s xs :=
  ⟨h.1, fun j u hj => by
    obtain ⟨b, off, e, hc⟩ := h.2 j u hj
    exact ⟨b, off, e, (hb.cell (World.block_lt_of_cell? w _ hc)).trans hc⟩⟩
theorem SlR.of_owns {w : World} {base : Nat} {e : TypeId} {s : Nat} {A : Option Addr} {n c : Nat} {xs : List Value} (h : w.ownsRow base e s (.slice A n c) n xs) : SlR w A n s xs := by
  refine ⟨h.1, fun j u hj => ?_⟩
  rcases h.2 with ⟨e1, e2⟩ | ⟨g, cap, cur, e1, _, hg, _, _, _, ht⟩
  · subst e2
    have := h.1
    simp at this
    subst this
    simp at hj
  · cases e1
    refine ⟨g, 0, rfl, ?_⟩
    rw [Nat.zero_add]
    refine cellA hg ?_
    rw [← ht, List.getElem?_take] at hj
    split at hj
    · simpa using hj
    · cases hj

def lbCells (ls : List (ByteArray × ByteArray)) : List Value := ls.flatMap fun x => [.string x.1, .string x.2]
theorem lbCells_len : ∀ ls, (lbCells ls).length = ls.length * 2
  | [] => rfl
  | x :: r => by have := lbCells_len r; simp [lbCells] at this ⊢; omega
theorem lbCells_snoc (ls : List (ByteArray × ByteArray)) (x : ByteArray × ByteArray) : lbCells (ls ++ [x]) = lbCells ls ++ [.string x.1, .string x.2] := by simp [lbCells]
theorem lbCells_at (ls : List (ByteArray × ByteArray)) : ∀ (k : Nat) (hk : k < ls.length), (lbCells ls)[k * 2]? = some (.string (ls[k]).1) ∧ (lbCells ls)[k * 2 + 1]? = some (.string (ls[k]).2) := by
  induction ls with
  | nil => intro k hk; simp at hk
  | cons x r ih =>
    intro k hk
    cases k with
    | zero => exact ⟨rfl, rfl⟩
    | succ k =>
      have := ih k (by simpa using hk)
      have e : lbCells (x :: r) = .string x.1 :: .string x.2 :: lbCells r := rfl
      rw [e, show (k + 1) * 2 = k * 2 + 1 + 1 by omega]
      simpa using this
theorem take_snocL {α : Type} (l : List α) (k : Nat) (h : k < l.length) : l.take (k + 1) = l.take k ++ [l[k]] := by
  rw [List.take_succ_eq_append_getElem h]
/-- The two cells of a label. -/
theorem lb_read {w : World} {A : Option Addr} {ls : List (ByteArray × ByteArray)} (h : SlR w A ls.length 2 (lbCells ls)) (k : Nat) (hk : k < ls.length) :
    ∃ b off, A = some ⟨b, off, none⟩ ∧ w.cell? ⟨b, off + k * 2, none⟩ = some (.string (ls[k]).1) ∧ w.cell? ⟨b, off + k * 2 + 1, none⟩ = some (.string (ls[k]).2) := by
  obtain ⟨h1, h2⟩ := lbCells_at ls k hk
  obtain ⟨b, off, e, hc⟩ := h.2 _ _ h1
  obtain ⟨b', off', e', hc'⟩ := h.2 _ _ h2
  rw [e] at e'
  cases e'
  exact ⟨b, off, e, hc, hc'⟩

theorem infoLb : (Tryd.prog.info? 36).map (fun i => (i.zero, i.size, i.bytes)) = some (some (.agg #[.string ⟨#[]⟩, .string ⟨#[]⟩]), 2, 32) := by kernel_rfl
set_option maxHeartbeats 1000000 in
theorem copyLabels (A : Option Addr) (c : Nat) (ls : List (ByteArray × ByteArray)) (w : World) (hr : SlR w A ls.length 2 (lbCells ls)) (hl : ls.length ≤ 4398046511104) :
    Calls Tryd.prog 16 #[.slice A ls.length c] w fun e w' => ∃ v, e = .returned v ∧ w'.ownsRow w.heap.size 36 2 v ls.length (lbCells ls) ∧ Below w.heap.size w w' := by
  obtain ⟨i0, hi, hz0, hz1, hz2⟩ := info_parts infoLb
  have HR := Lib.hid hr
  clear hr
  go_enter Tryd.func16, Tryd.ntmps16
  go_wp2
  go_loopw [3, 4] (fun v i wr => ∃ k : Nat, k ≤ ls.length ∧ i = .int .i64 k ∧ Hid (wr.ownsRow w.heap.size 36 2 v k (lbCells (ls.take k))) ∧ Hid (Below w.heap.size w wr)) (fun _ i _ => ls.length - (intOf i).toNat)
  case atStart => exact ⟨0, Nat.zero_le _, rfl, World.ownsRow_nil _ _ _ _, Below.refl _ _⟩
  case round =>
    obtain ⟨k, hk, rfl, HO, HB⟩ := hrel
    by_cases hlt : k < ls.length
    · obtain ⟨b, off, rfl, hx, hy⟩ := lb_read HR.out k hlt
      replace hx := (HB.out.cell (World.block_lt_of_cell? w _ hx)).trans hx
      replace hy := (HB.out.cell (World.block_lt_of_cell? w _ hy)).trans hy
      have hs := lbCells_snoc (ls.take k) ls[k]
      rw [← take_snocL ls k hlt] at hs
      have HS := Lib.hid hs
      clear hs
      have hsz := HB.out.size
      generalize ls[k] = X at *
      go_wp2_with (at_builtin; refine wpList_append_own _ rfl _ _ 37 rfl w.heap.size 36 i0 (.agg #[.string ⟨#[]⟩, .string ⟨#[]⟩]) 2 32 Tryd.underlying37 hi hz0 hz1 hz2 rfl (by decide) _ _ _ rfl (HO.out.alloc _) ⟨wr.heap.size, 0, none⟩ 1 1 [.string X.1, .string X.2] rfl rfl ?c1 ?c2 ?c3 ?c4 ?c5 ?_)
      case c1 => exact fun j u hj => by rw [addr_add, Nat.zero_add]; exact cellA (newA _ _) (by simpa using hj)
      case c2 => intro u hu; simp at hu; rcases hu with rfl | rfl <;> rfl
      case c3 => unfold maxLen; omega
      case c4 => omega
      case c5 => simp; omega
      intro v1 w1 ho1 hg1 _
      rw [← HS.out] at ho1
      have HO1 := Lib.hid ho1
      have HB1 := Lib.hid ((HB.out.alloc hsz (.cells #[.string X.1, .string X.2] 36)).grown hg1 (by simp; omega) (fun j ej => (HO.out.lt j ej).1))
      clear ho1 hg1
      go_wp2
      go_roundw
      case rel => exact ⟨k + 1, by omega, by go_num, HO1, HB1⟩
      case measure => simp [intOf]; omega
    · have hk' : k = ls.length := by omega
      subst hk'
      have HO' := HO.out
      rw [List.take_length] at HO'
      have HO2 := Lib.hid HO'
      clear HO'
      go_wp2
      go_ret
      exact ⟨_, rfl, HO2.out, HB.out⟩
end Go.Proofs.YtafknopcinpakaaDoor
