/-
  digest.Of and digest.Template: what each answers; nothing that was there is changed.
  Conditions: as each theorem states them.
-/
import Derived.Test.YtafknopcinpakaaDoorDig1
namespace Go.Proofs.YtafknopcinpakaaDoor
open Go.RowKit Go.Extern.Stop Go.Stop Go.Extern
set_option linter.unusedVariables false
set_option linter.unusedSimpArgs false
set_option maxRecDepth 100000

theorem kept_grown {w w' : World} {g : Nat} (h : w.grownBy w' (some g)) (B : Nat) (hB : B ≤ w.heap.size) (hg : B ≤ g) : Below B w w' :=
  ⟨h.os, h.tape, h.output, h.size, fun k hk => h.block k (by omega) (by simp; omega)⟩

theorem dof (A : Option Addr) (n c : Nat) (bs : List Int) (w : World) (hn : bs.length = n) (hl : bs.length ≤ 140737488351232)
    (hr : ∀ j, j < bs.length → 0 ≤ bs.getD j 0 ∧ bs.getD j 0 ≤ 255 ∧ ∃ b off, A = some ⟨b, off, none⟩ ∧ w.cell? ⟨b, off + j, none⟩ = some (.int .u8 (bs.getD j 0))) :
    Calls Tryd.prog 5 #[.slice A n c] w fun e w' => e = .returned (.int .u64 (fnv 14695981039346656037 bs)) ∧ Below w.heap.size w w' := by
  have hr' : ∀ j, j < bs.length → 0 ≤ bs.getD j 0 ∧ bs.getD j 0 ≤ 255 ∧ ∃ b off, A = some ⟨b, off, none⟩ ∧ b ≠ w.heap.size ∧ (w.alloc (.cells #[.int .u64 14695981039346656037] 42)).cell? ⟨b, off + j, none⟩ = some (.int .u8 (bs.getD j 0)) := by
    intro j hj
    obtain ⟨h0, h1, b, off, e, hc⟩ := hr j hj
    have hb := World.block_lt_of_cell? w _ hc
    refine ⟨h0, h1, b, off, e, by simp at hb; omega, ?_⟩
    rw [World.cell?_alloc_past _ _ _ hb]; exact hc
  have HR := Lib.hid hr'
  clear hr hr'
  have HN := Lib.hid hn
  clear hn
  go_enter Tryd.func5, Tryd.ntmps5
  go_wp2_with (go_at_call 11; refine (dbytesN w.heap.size _ A n c bs _ HN.out (Boxed.new _ _ _) hl HR.out).mono ?_; rintro e w1 ⟨rfl, hb, hg⟩; have hc := hb.cell)
  go_ret
  exact ⟨rfl, ((Below.refl _ _).alloc (Nat.le_refl _) _).trans (kept_grown hg _ (by simp) (Nat.le_refl _))⟩

/-- What of an object its digest hangs on. -/
structure Tm where
  image : ByteArray
  cpu : Int
  mem : Int
  rise : Int
  fall : Int
  labels : List (ByteArray × ByteArray)
def Tm.head (t : Tm) : List It := [.s t.image, .n t.cpu, .n t.mem, .n t.rise, .n t.fall, .n t.labels.length]
def lbls (h : Int) (l : List (ByteArray × ByteArray)) : Int := l.foldl (fun h x => flds h [.s x.1, .s x.2]) h
def Tm.dig (t : Tm) : Int := lbls (flds 14695981039346656037 t.head) t.labels
theorem lbls_snoc (h : Int) (l : List (ByteArray × ByteArray)) (x : ByteArray × ByteArray) : lbls h (l ++ [x]) = flds (lbls h l) [.s x.1, .s x.2] := by simp [lbls]

theorem its_read (l : List It) (b g : Nat) (hne : b ≠ g) (w : World) (t : TypeId) (fr : Nat × Nat) (hb : w.heap[b]? = some (.cells (l.map It.val).toArray t fr)) (hs : ∀ x ∈ l, ∀ s, x = .s s → s.size ≤ 1000) :
    ∀ j (hj : j < l.length), (∀ s, l[j] = .s s → s.size ≤ 1000) ∧ ∃ b' off, some (⟨b, 0, none⟩ : Addr) = some ⟨b', off, none⟩ ∧ b' ≠ g ∧ w.cell? ⟨b', off + j, none⟩ = some (l[j]).val := by
  intro j hj
  refine ⟨fun s e => hs _ (List.getElem_mem hj) s e, b, 0, rfl, hne, ?_⟩
  rw [Nat.zero_add, cell_of_row w b j _ t fr hb]
  simp [hj]

set_option maxHeartbeats 1000000 in
theorem dtemplate (cs : Array Value) (t : Tm) (A : Option Addr) (c : Nat) (w : World) (h4 : cs[4]? = some (.slice A t.labels.length c)) (h19 : cs[19]? = some (.string t.image)) (h17 : cs[17]? = some (.int .i64 t.cpu)) (h18 : cs[18]? = some (.int .i64 t.mem))
    (h20 : cs[20]? = some (.int .i64 t.rise)) (h21 : cs[21]? = some (.int .i64 t.fall))
    (hs : t.image.size ≤ 1000) (hll : t.labels.length ≤ 1000)
    (hl : ∀ j (hj : j < t.labels.length), (t.labels[j]).1.size ≤ 1000 ∧ (t.labels[j]).2.size ≤ 1000 ∧ ∃ b off, A = some ⟨b, off, none⟩ ∧ w.cell? ⟨b, off + j * 2, none⟩ = some (.string (t.labels[j]).1) ∧ w.cell? ⟨b, off + j * 2 + 1, none⟩ = some (.string (t.labels[j]).2)) :
    Calls Tryd.prog 9 #[.agg cs] w fun e w' => e = .returned (.int .u64 t.dig) ∧ Below w.heap.size w w' := by
  go_enter Tryd.func9, Tryd.ntmps9
  have HL := Lib.hid hl
  clear hl
  go_wp2_with (go_at_call 15; refine (dfields (w.heap.size + 1) _ (some ⟨w.heap.size + 1 + 1, 0, none⟩) 6 t.head _ (by exact Boxed.alloc (heap_alloc_at _ _ (by simp)) _) (by simp [Tm.head]) (its_read t.head (w.heap.size + 1 + 1) (w.heap.size + 1) (by omega) _ _ (0, 0) (by exact heap_alloc_at _ _ (by simp)) (by intro x hx s e; subst e; simp [Tm.head] at hx; subst hx; exact hs))).mono ?_; rintro e w1 ⟨rfl, hb1, hg1⟩; have HB1 := Lib.hid hb1; have HG1 := Lib.hid (kept_grown hg1 (w.heap.size + 1) (by simp <;> omega) (Nat.le_refl _)); have hc4 : w1.cell? ⟨w.heap.size, 4, none⟩ = some (.slice A t.labels.length c) := cellA (((HG1.out).block _ (by omega)).trans (pastA _ (pastA _ (newA _ _)))) h4; clear hb1 hg1)
  have hB1 : Below (w.heap.size + 1) (w.alloc (.cells cs 39)) w1 := (((Below.refl _ _).alloc (by simp) _).alloc (by simp <;> omega) _).trans HG1.out
  have HB := Lib.hid hB1
  clear HG1 hB1
  go_loopw [32] (fun i wr => ∃ k : Nat, k ≤ t.labels.length ∧ i = .int .i64 k ∧ Boxed wr (w.heap.size + 1) 42 (.int .u64 (lbls (flds 14695981039346656037 t.head) (t.labels.take k))) ∧ Below (w.heap.size + 1) (w.alloc (.cells cs 39)) wr) (fun i _ => t.labels.length - (intOf i).toNat)
  case atStart => exact ⟨0, Nat.zero_le _, rfl, by simpa [lbls] using HB1.out, HB.out⟩
  case round =>
    obtain ⟨k, hk, rfl, hb, hbl⟩ := hrel
    have hsz := hb.lt
    have hsz1 := hbl.size
    simp at hsz1
    by_cases hlt : k < t.labels.length
    · obtain ⟨h1, h2, b, off, rfl, hx, hy⟩ := HL.out k hlt
      have hf := lbls_snoc (flds 14695981039346656037 t.head) (t.labels.take k) t.labels[k]
      rw [← take_snocX _ k hlt] at hf
      have hbx := World.block_lt_of_cell? w _ hx
      replace hx := (hbl.cell (p := ⟨b, off + k * 2, none⟩) (by simp at hbx ⊢; omega)).trans ((World.cell?_alloc_past _ _ _ hbx).trans hx)
      replace hy := (hbl.cell (p := ⟨b, off + k * 2 + 1, none⟩) (by simp at hbx ⊢; omega)).trans ((World.cell?_alloc_past _ _ _ (by simpa using hbx)).trans hy)
      have HF := Lib.hid hf
      have HBx := Lib.hid hb
      have HBl := Lib.hid hbl
      clear hf hb hbl
      generalize t.labels[k] = X at *
      go_wp2_with (go_at_call 15; refine (dfields (w.heap.size + 1) _ (some ⟨wr.heap.size + 1, 0, none⟩) 2 [.s X.1, .s X.2] _ (by exact ((HBx.out).alloc _).alloc _) (by simp) (its_read [.s X.1, .s X.2] (wr.heap.size + 1) (w.heap.size + 1) (by omega) _ _ (0, 0) (by exact heap_alloc_at _ _ (by simp)) (by intro x hx s e; subst e; simp at hx; rcases hx with rfl | rfl <;> assumption))).mono ?_; rintro e w2 ⟨rfl, hb2, hg2⟩; have HB2 := Lib.hid hb2; have HG2 := Lib.hid (kept_grown hg2 (w.heap.size + 1) (by simp <;> omega) (Nat.le_refl _)); clear hb2 hg2)
      go_roundw
      case rel => exact ⟨k + 1, by omega, by go_num, by rw [HF.out]; exact HB2.out, (((HBl.out).alloc (by omega) _).alloc (by simp <;> omega) _).trans HG2.out⟩
      case measure => simp [intOf]; omega
    · have hk' : k = t.labels.length := by omega
      subst hk'
      have hc := hb.cell
      go_wp2
      go_ret
      exact ⟨by simp [Tm.dig], ((Below.refl _ _).alloc (Nat.le_refl _) _).trans (hbl.mono (by omega))⟩
end Go.Proofs.YtafknopcinpakaaDoor
