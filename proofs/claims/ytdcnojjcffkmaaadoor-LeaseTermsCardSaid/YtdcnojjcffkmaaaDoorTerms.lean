/-
  flotillalaw17.LeaseTerms answers true; nothing that was there is changed.
  Conditions: Door (errors.errorType holds what start-up lays); the script's cells are read as whole numbers.
-/
import Derived.Test.YtdcnojjcffkmaaaDoorKnown
import Derived.Test.YtdcnojjcffkmaaaDoorPick
import Derived.Test.YtdcnojjcffkmaaaDoorStill
import Derived.Deep.RegionHeld3
import Derived.Deep.DeepCutAuto
import Derived.Deep.LoopGhost
import Derived.Test.YtdcnojjcffkmaaaDoorOb
namespace Go.Proofs.YtdcnojjcffkmaaaDoor
open Go.RowKit Go.Extern.Stop Go.Stop Go.Extern
set_option linter.unusedVariables false
set_option linter.unusedSimpArgs false
set_option maxRecDepth 100000
attribute [-go_sem] Instr.loadAt Instr.storeAt Instr.alloc
attribute [local go_sem high] loadAt_ob storeAt_ob alloc_ob
attribute [local go_sem] loadAt_other storeAt_other alloc_other
attribute [local go_sem] run_obLoad run_obStore run_obAlloc obZero_size
attribute [local go_sem] heap_alloc_at heap_alloc_past setRow_alloc_at setRow_alloc_past isOb_drew rowOf_drew isOb_zero isOb_alloc_at rowOf_alloc_at isOb_alloc rowOf_alloc isOb_setCell rowOf_setCell rowOf_setCell_ne isOb_setRow rowOf_setRow rowOf_setRow_ne cell_ob frozen_ob

/-- The three holders. -/
def nmOf (j : Int) : ByteArray := if j = 0 then ⟨#[97, 45, 49]⟩ else if j = 1 then ⟨#[98, 45, 49]⟩ else ⟨#[99, 45, 49]⟩
theorem ne_c1 : (⟨#[99, 45, 49]⟩ : ByteArray).toList.isEmpty = false := by rw [ByteArray.toList_eq]; rfl
theorem nmOf_ne (j : Int) : (nmOf j).toList.isEmpty = false := by
  unfold nmOf; split
  · exact ne_a1
  · split
    · exact ne_b1
    · exact ne_c1
theorem nmOf_inj (i j : Int) (hi : 0 ≤ i ∧ i < 3) (hj : 0 ≤ j ∧ j < 3) (h : nmOf i = nmOf j) : i = j := by
  have hi' : i = 0 ∨ i = 1 ∨ i = 2 := by omega
  have hj' : j = 0 ∨ j = 1 ∨ j = 2 := by omega
  rcases hi' with rfl | rfl | rfl <;> rcases hj' with rfl | rfl | rfl <;> first | rfl | (simp [nmOf] at h)

theorem add_next (a : Addr) (k : Nat) : a.add (k * 2 + 1) = ⟨(a.add (k * 2)).block, (a.add (k * 2)).off + 1, none⟩ := by
  unfold Addr.add
  by_cases h : k * 2 = 0
  · simp [h]
  · simp [h, Nat.add_assoc]

/-- What holds of the numbers at a round's head. -/
structure TI (n k : Nat) (N H U T : Int) (hs : ByteArray) : Prop where
  kn : k ≤ n
  n0 : 0 ≤ N
  n1 : N ≤ 7 * k
  t0 : 0 ≤ T
  t1 : T ≤ k
  h0 : -1 ≤ H
  h1 : H < 3
  none : H = -1 → U = 0
  some : 0 ≤ H → hs = nmOf H
  u : U ≤ N + 4


theorem lob_row (k : Int) (nm h : ByteArray) (t u : Int) : okRow (lob k nm h t u) = true := by
  simp only [okRow, Bool.and_eq_true, beq_iff_eq, List.all_eq_true]
  exact ⟨rfl, (lob_objC k nm h t u).one⟩
theorem build_lob5 (w : World) : (Instr.build 27 #[(0, .int .i64 5), (1, .string ⟨#[115, 99, 104, 101, 100]⟩)]).run Tryd.prog w = .ok (.agg (lob 5 ⟨#[115, 99, 104, 101, 100]⟩ ⟨#[]⟩ 0 0)) w := by kernel_rfl
theorem lob_size (k : Int) (nm h : ByteArray) (t u : Int) : (lob k nm h t u).size = 32 := rfl
/-- What a round leans on: the lease's block and the names' block. -/
structure Lay (L : Nat) (hs : ByteArray) (T U : Int) (w : World) : Prop where
  ob : isOb w (L + 1) = true
  row : rowOf w (L + 1) = lob 5 ⟨#[115, 99, 104, 101, 100]⟩ hs T U
  names : ∀ j : Int, 0 ≤ j → j < 3 → w.cell? ⟨L, j.toNat, none⟩ = some (.string (nmOf j))
theorem Lay.below {L : Nat} {hs : ByteArray} {T U : Int} {W w : World} (h : Lay L hs T U W) (hb : Below W.heap.size W w) : Lay L hs T U w :=
  ⟨isOb_below hb h.ob, (rowOf_below hb h.ob).trans h.row, fun j h0 h1 => (hb.cell (World.block_lt_of_cell? W _ (h.names j h0 h1))).trans (h.names j h0 h1)⟩
theorem Lay.drew {L : Nat} {hs : ByteArray} {T U : Int} {W : World} (h : Lay L hs T U W) : Lay L hs T U W.drew := h.below ((Below.refl _ _).drew)
theorem Lay.alloc {L : Nat} {hs : ByteArray} {T U : Int} {W : World} (h : Lay L hs T U W) (o : Obj) : Lay L hs T U (W.alloc o) := h.below ((Below.refl _ _).alloc (Nat.le_refl _) o)

abbrev KS (L : Nat) (hs : ByteArray) (T U Q : Int) (w0 w' : World) : Prop := isOb w' (L + 1) = true ∧ rowOf w' (L + 1) = lob 5 ⟨#[115, 99, 104, 101, 100]⟩ hs T U ∧ w'.cell? ⟨L, Q.toNat, none⟩ = some (.string (nmOf Q)) ∧ Lay L hs T U w' ∧ Below w0.heap.size w0 w'
theorem ks_below {L : Nat} {hs : ByteArray} {T U Q : Int} {w0 W w : World} (h : KS L hs T U Q w0 W) (hb : Below W.heap.size W w) : KS L hs T U Q w0 w :=
  ⟨isOb_below hb h.1, (rowOf_below hb h.1).trans h.2.1, (hb.cell (World.block_lt_of_cell? W _ h.2.2.1)).trans h.2.2.1, h.2.2.2.1.below hb, thenK h.2.2.2.2 hb⟩
theorem ks_drew {L : Nat} {hs : ByteArray} {T U Q : Int} {w0 W : World} (h : KS L hs T U Q w0 W) : KS L hs T U Q w0 W.drew := ks_below h ((Below.refl _ _).drew)
theorem ks_alloc {L : Nat} {hs : ByteArray} {T U Q : Int} {w0 W : World} (h : KS L hs T U Q w0 W) (o : Obj) : KS L hs T U Q w0 (W.alloc o) := ks_below h ((Below.refl _ _).alloc (Nat.le_refl _) o)
theorem Lay.setRow {L b : Nat} {hs : ByteArray} {T U : Int} {W : World} (h : Lay L hs T U W) (hb : L + 1 < b) (cs : Array Value) (hc : cs.size = 32) : Lay L hs T U (W.setRow b cs) :=
  ⟨isOb_setRow h.ob hc, (rowOf_setRow_ne h.ob (by omega)).trans h.row, fun j h0 h1 => by
    have hx := h.names j h0 h1
    rw [World.cell?_of_block (w := W) (setRow_other W b L cs (by omega))]; exact hx⟩
theorem ks_setRow {L b : Nat} {hs : ByteArray} {T U Q : Int} {w0 W : World} (h : KS L hs T U Q w0 W) (hb : L + 1 < b) (hB : w0.heap.size ≤ L) (cs : Array Value) (hc : cs.size = 32) : KS L hs T U Q w0 (W.setRow b cs) :=
  ⟨isOb_setRow h.1 hc, (rowOf_setRow_ne h.1 (by omega)).trans h.2.1, by rw [World.cell?_of_block (w := W) (setRow_other W b L cs (by omega))]; exact h.2.2.1, h.2.2.2.1.setRow hb cs hc, bSetRow h.2.2.2.2 (by omega) _⟩
theorem ks_realloc {L : Nat} {hs : ByteArray} {T U Q : Int} {w0 W : World} {o : Obj} (h : KS L hs T U Q w0 (W.alloc o)) (hl : L + 1 < W.heap.size) (hB : w0.heap.size ≤ L) (o' : Obj) : KS L hs T U Q w0 (W.alloc o') := by
  have hx : ∀ k, k < W.heap.size → (W.alloc o').heap[k]? = (W.alloc o).heap[k]? := fun k hk => (Below.heap_alloc W o' k hk).trans (Below.heap_alloc W o k hk).symm
  have hb : ∀ j : Nat, (W.alloc o').cell? ⟨L, j, none⟩ = (W.alloc o).cell? ⟨L, j, none⟩ := fun j => World.cell?_of_block (w := W.alloc o) (hx L (by omega))
  have h1 : isOb (W.alloc o') (L + 1) = true := by have := h.1; unfold isOb at this ⊢; rw [hx _ hl]; exact this
  have h2 : rowOf (W.alloc o') (L + 1) = lob 5 ⟨#[115, 99, 104, 101, 100]⟩ hs T U := by have := h.2.1; unfold rowOf at this ⊢; rw [hx _ hl]; exact this
  refine ⟨h1, h2, (hb _).trans h.2.2.1, ⟨h1, h2, fun j a b => (hb _).trans (h.2.2.2.1.names j a b)⟩, ?_⟩
  have B := h.2.2.2.2
  exact ⟨B.os, B.tape, B.output, by simpa using B.size, fun k hk => (hx k (by omega)).trans (B.block k hk)⟩
theorem ks_lt {L : Nat} {hs : ByteArray} {T U Q : Int} {w0 W : World} (h : KS L hs T U Q w0 W) : L + 1 < W.heap.size := isOb_lt h.1

theorem lholdsB (k : Int) (nm h : ByteArray) (t u : Int) (holder : ByteArray) (term : Int) (b : Bool) (w : World) (hh : holder.toList.isEmpty = false) (hb : decide (h = holder ∧ t = term) = b) :
    Calls Tryd.prog 12 #[.agg (lob k nm h t u), .string holder, .int .i64 term] w fun e w' => e = .returned (.bool b) ∧ Below w.heap.size w w' := by
  subst hb
  refine (lholds k nm h t u holder term w hh).mono ?_
  rintro e w' ⟨rfl, rfl⟩
  exact ⟨rfl, allocB (Below.refl _ _) _⟩
theorem loverB (k : Int) (nm h : ByteArray) (t u now : Int) (b : Bool) (w : World) (hb : decide (u ≤ now) = b) :
    Calls Tryd.prog 14 #[.agg (lob k nm h t u), .int .i64 now] w fun e w' => e = .returned (.bool b) ∧ Below w.heap.size w w' := by
  subst hb
  refine (lover k nm h t u now w).mono ?_
  rintro e w' ⟨rfl, rfl⟩
  exact ⟨rfl, allocB (Below.refl _ _) _⟩
theorem loverF (k : Int) (nm h : ByteArray) (t u now : Int) (w : World) (hq : ¬ u ≤ now) :
    Calls Tryd.prog 14 #[.agg (lob k nm h t u), .int .i64 now] w fun e w' => e = .returned (.bool false) ∧ Below w.heap.size w w' := loverB k nm h t u now false w (by simp [hq])
theorem loverT (k : Int) (nm h : ByteArray) (t u now : Int) (w : World) (hq : u ≤ now) :
    Calls Tryd.prog 14 #[.agg (lob k nm h t u), .int .i64 now] w fun e w' => e = .returned (.bool true) ∧ Below w.heap.size w w' := loverB k nm h t u now true w (by simp [hq])
theorem loverFm (k : Int) (nm h : ByteArray) (t u now : Int) (w : World) (Q : Ending → World → Prop) (hq : ¬ u ≤ now) (hm : ∀ e w', e = .returned (.bool false) ∧ Below w.heap.size w w' → Q e w') :
    Calls Tryd.prog 14 #[.agg (lob k nm h t u), .int .i64 now] w Q := (loverF k nm h t u now w hq).mono hm
theorem loverTm (k : Int) (nm h : ByteArray) (t u now : Int) (w : World) (Q : Ending → World → Prop) (hq : u ≤ now) (hm : ∀ e w', e = .returned (.bool true) ∧ Below w.heap.size w w' → Q e w') :
    Calls Tryd.prog 14 #[.agg (lob k nm h t u), .int .i64 now] w Q := (loverT k nm h t u now w hq).mono hm
theorem plain17 (w : World) (hd : Door w) : Calls Tryd.prog 9 #[.iface 63 (.int .i64 17), .int .i64 17] w fun e w' => e = .returned (.bool true) ∧ Below w.heap.size w w' := plain_yes 17 (by omega) (by omega) w hd
/-- What a round leans on behind the call of Take. -/
structure KX (L bx : Nat) (X : Array Value) (hs : ByteArray) (T U : Int) (w0 w : World) : Prop where
  ob : isOb w bx = true
  row : rowOf w bx = X
  lay : Lay L hs T U w
  bel : Below w0.heap.size w0 w
theorem KX.below {L bx : Nat} {X : Array Value} {hs : ByteArray} {T U : Int} {w0 W w : World} (h : KX L bx X hs T U w0 W) (hb : Below W.heap.size W w) : KX L bx X hs T U w0 w :=
  ⟨isOb_below hb h.ob, (rowOf_below hb h.ob).trans h.row, h.lay.below hb, thenK h.bel hb⟩
abbrev KY (L bx : Nat) (X : Array Value) (hs : ByteArray) (T U : Int) (o : Nat) (v : Value) (w0 w' : World) : Prop := isOb w' bx = true ∧ rowOf w' bx = X ∧ w'.cell? ⟨L, o, none⟩ = some v ∧ KX L bx X hs T U w0 w'
theorem ky_below {L bx : Nat} {X : Array Value} {hs : ByteArray} {T U : Int} {o : Nat} {v : Value} {w0 W w : World} (h : KY L bx X hs T U o v w0 W) (hb : Below W.heap.size W w) : KY L bx X hs T U o v w0 w :=
  ⟨isOb_below hb h.1, (rowOf_below hb h.1).trans h.2.1, (hb.cell (World.block_lt_of_cell? W _ h.2.2.1)).trans h.2.2.1, h.2.2.2.below hb⟩
theorem ky_drew {L bx : Nat} {X : Array Value} {hs : ByteArray} {T U : Int} {o : Nat} {v : Value} {w0 W : World} (h : KY L bx X hs T U o v w0 W) : KY L bx X hs T U o v w0 W.drew := ky_below h ((Below.refl _ _).drew)
theorem Lay.put {L : Nat} {hs : ByteArray} {T U : Int} {W : World} (h : Lay L hs T U W) (hs' : ByteArray) (T' U' : Int) : Lay L hs' T' U' (W.setRow (L + 1) (lob 5 ⟨#[115, 99, 104, 101, 100]⟩ hs' T' U')) :=
  ⟨isOb_setRow h.ob rfl, rowOf_setRow h.ob, fun j h0 h1 => by
    have hx := h.names j h0 h1
    rw [World.cell?_of_block (w := W) (setRow_other W (L + 1) L _ (by omega))]; exact hx⟩
theorem nm_dec (i j : Int) (hi : 0 ≤ i ∧ i < 3) (hj : 0 ≤ j ∧ j < 3) (t : Int) : decide (nmOf i = nmOf j ∧ t = t) = decide (i = j) := by
  by_cases h : i = j
  · subst h; simp
  · have : nmOf i ≠ nmOf j := fun e => h (nmOf_inj i j hi hj e)
    simp [h, this]

theorem nm_beq (i j : Int) (hi : 0 ≤ i ∧ i < 3) (hj : 0 ≤ j ∧ j < 3) (h : i ≠ j) : ((nmOf i).toList == (nmOf j).toList) = false := by
  have hn : nmOf i ≠ nmOf j := fun e => h (nmOf_inj i j hi hj e)
  rw [beq_eq_false_iff_ne]
  intro e
  apply hn
  rw [ByteArray.toList_eq, ByteArray.toList_eq] at e
  cases hx : nmOf i; cases hy : nmOf j; rw [hx, hy] at e; simp at e; rw [e]
theorem zob_size : zob.size = 32 := rfl
theorem zob_ok : okRow zob = true := by decide
theorem TI.held {n k : Nat} {N H U T R : Int} {hs : ByteArray} (h : TI n k N H U T hs) (hk : k < n) (hR : 0 ≤ R ∧ R ≤ 6) : TI n (k + 1) (N + R) H U T hs :=
  ⟨hk, by have := h.n0; omega, by have := h.n1; omega, h.t0, by have := h.t1; omega, h.h0, h.h1, h.none, h.some, by have := h.u; omega⟩
theorem TI.take {n k : Nat} {N H U T R Q T2 : Int} {hs : ByteArray} (h : TI n k N H U T hs) (hk : k < n) (hR : 0 ≤ R ∧ R ≤ 6) (hQ : 0 ≤ Q ∧ Q < 3) (hT : (T2 = T + 1 ∧ U ≤ N + R) ∨ (T2 = T ∧ N + R < U ∧ H = Q)) : TI n (k + 1) (N + R) Q (N + R + 4) T2 (nmOf Q) :=
  ⟨hk, by have := h.n0; omega, by have := h.n1; omega, by have := h.t0; omega, by have := h.t1; omega, by omega, by omega, by omega, fun _ => rfl, by omega⟩

set_option maxHeartbeats 4000000 in
theorem terms17 (A : Option Addr) (n c : Nat) (wh lt : Nat → Int) (w : World) (hd : Door w) (hn : n ≤ 1000) (hlo : ∀ j, -9223372036854775808 ≤ lt j) (hlb : ∀ j, lt j ≤ 9223372036854775807) (hwo : ∀ j, -9223372036854775808 ≤ wh j) (hwb : ∀ j, wh j ≤ 9223372036854775807)
    (hs : 0 < n → ∃ ad, A = some ad ∧ ∀ j, j < n → w.cell? (ad.add (j * 2)) = some (.int .i64 (wh j)) ∧ w.cell? (ad.add (j * 2 + 1)) = some (.int .i64 (lt j))) :
    Calls Tryd.prog 4 #[.slice A n c] w fun e w' => e = .returned (.bool true) ∧ Below w.heap.size w w' := by
  have HS := Lib.hid hs
  clear hs
  have HD := Lib.hid hd
  clear hd
  have hr := lob_row
  have hz := lob_size
  have hbl := build_lob5
  go_enter Tryd.func4, Tryd.ntmps4
  go_wp2_with (first | (go_at_call 18; refine (works17 _).mono ?_; rintro e w1 ⟨rfl, Hq1⟩) | ((first | (with_reducible apply ldRow 27 Tryd.underlying27 rfl) | ((with_reducible apply ldRowG 27 Tryd.underlying27 rfl); (case hw => rfl))); (case hx => rfl); (case hg => ((try simp only [heap_drew]); (first | assumption | (with_reducible exact newA _ _) | ((with_reducible refine heap_alloc_at _ _ ?_); focus (simp <;> omega)) | (refine pastA _ ?_; (first | assumption | (with_reducible exact newA _ _) | ((with_reducible refine heap_alloc_at _ _ ?_); focus (simp <;> omega)) | (refine pastA _ ?_; (first | assumption | (with_reducible exact newA _ _) | ((with_reducible refine heap_alloc_at _ _ ?_); focus (simp <;> omega)) | (refine pastA _ ?_; (first | assumption | (with_reducible exact newA _ _) | ((with_reducible refine heap_alloc_at _ _ ?_); focus (simp <;> omega)) | (refine pastA _ ?_; (first | assumption | (with_reducible exact newA _ _) | ((with_reducible refine heap_alloc_at _ _ ?_); focus (simp <;> omega)) | (refine pastA _ ?_; (first | assumption | (with_reducible exact newA _ _) | ((with_reducible refine heap_alloc_at _ _ ?_); focus (simp <;> omega))))))))))))))); (case hi => (first | (with_reducible exact (lob_objC ..).info) | exact zob_objC.info))) | ((with_reducible apply stRow 27); (case hx => rfl); (case hy => rfl); (case hg => ((try simp only [heap_drew]); (first | assumption | (with_reducible exact newA _ _) | ((with_reducible refine heap_alloc_at _ _ ?_); focus (simp <;> omega)) | (refine pastA _ ?_; (first | assumption | (with_reducible exact newA _ _) | ((with_reducible refine heap_alloc_at _ _ ?_); focus (simp <;> omega)) | (refine pastA _ ?_; (first | assumption | (with_reducible exact newA _ _) | ((with_reducible refine heap_alloc_at _ _ ?_); focus (simp <;> omega)) | (refine pastA _ ?_; (first | assumption | (with_reducible exact newA _ _) | ((with_reducible refine heap_alloc_at _ _ ?_); focus (simp <;> omega)) | (refine pastA _ ?_; (first | assumption | (with_reducible exact newA _ _) | ((with_reducible refine heap_alloc_at _ _ ?_); focus (simp <;> omega)) | (refine pastA _ ?_; (first | assumption | (with_reducible exact newA _ _) | ((with_reducible refine heap_alloc_at _ _ ?_); focus (simp <;> omega))))))))))))))); (case hs => rfl); (case hi => (first | (with_reducible exact (lob_objC ..).info) | exact zob_objC.info | exact (lob_objC 5 ⟨#[115, 99, 104, 101, 100]⟩ ⟨#[]⟩ 0 0).info)); (case h1 => (first | (with_reducible exact (lob_objC ..).one) | exact zob_objC.one | exact (lob_objC 5 ⟨#[115, 99, 104, 101, 100]⟩ ⟨#[]⟩ 0 0).one))))
  have HY : Hid (Lay w1.heap.size ⟨#[]⟩ 0 0 ((w1.alloc (.cells #[.string ⟨#[97, 45, 49]⟩, .string ⟨#[98, 45, 49]⟩, .string ⟨#[99, 45, 49]⟩] 9)).alloc (.cells (lob 5 ⟨#[115, 99, 104, 101, 100]⟩ ⟨#[]⟩ 0 0) 27))) := Lib.hid ⟨isOb_alloc_at (by simp) rfl, rowOf_alloc_at (by simp), by
    intro j h0 h1
    have hj : j = 0 ∨ j = 1 ∨ j = 2 := by omega
    rcases hj with rfl | rfl | rfl <;> exact cellA (pastA _ (newA _ _)) rfl⟩
  have HB0 : Hid (Below w.heap.size w ((w1.alloc (.cells #[.string ⟨#[97, 45, 49]⟩, .string ⟨#[98, 45, 49]⟩, .string ⟨#[99, 45, 49]⟩] 9)).alloc (.cells (lob 5 ⟨#[115, 99, 104, 101, 100]⟩ ⟨#[]⟩ 0 0) 27))) := Lib.hid (allocB (allocB Hq1 _) _)
  have hwL := Hq1.size
  clear Hq1
  generalize w1.heap.size = L at *
  go_loopg [5, 6, 7, 8, 9] n (fun gq now hol unt trm i wr => ∃ (k : Nat) (N H U T : Int) (hs : ByteArray), gq = n - k ∧ TI n k N H U T hs ∧ i = .int .i64 k ∧ now = .int .i64 N ∧ hol = .int .i64 H ∧ unt = .int .i64 U ∧ trm = .int .i64 T ∧ Hid (Lay L hs T U wr) ∧ Hid (Below w.heap.size w wr))
  case atStart =>
    exact ⟨0, 0, -1, 0, 0, ⟨#[]⟩, rfl, ⟨Nat.zero_le _, by omega, by omega, by omega, by omega, by omega, by omega, fun _ => rfl, fun h => absurd h (by omega), by omega⟩, rfl, rfl, rfl, rfl, rfl, HY, HB0⟩
  case round =>
    clear HY HB0
    obtain ⟨k, N, H, U, T, hs', rfl, hI, rfl, rfl, rfl, rfl, rfl, HL, HB⟩ := hrel
    have hkn := hI.kn
    by_cases hlt : k < n
    · obtain ⟨ad, rfl, hcs⟩ := HS.out (by omega)
      obtain ⟨hc0, hc1⟩ := hcs k hlt
      replace hc0 := ((HB.out).cell (World.block_lt_of_cell? w _ hc0)).trans hc0
      replace hc1 := ((HB.out).cell (World.block_lt_of_cell? w _ hc1)).trans hc1
      rw [add_next] at hc1
      have hl0 := hlo k
      have hl1 := hlb k
      have hw0 := hwo k
      have hw1 := hwb k
      clear hcs
      have hN7 : N ≤ 7000 := by have := hI.n1; omega
      have hN0 := hI.n0
      have hp0 := Int.emod_nonneg (lt k) (show (7 : Int) ≠ 0 by omega)
      have hp1 := Int.emod_lt_of_pos (lt k) (show (0 : Int) < 7 by omega)
      have hq0 := Int.emod_nonneg (wh k) (show (3 : Int) ≠ 0 by omega)
      have hq1 := Int.emod_lt_of_pos (wh k) (show (0 : Int) < 3 by omega)
      obtain ⟨Q, hQ⟩ : ∃ Q, wh k % 3 = Q := ⟨_, rfl⟩
      obtain ⟨R, hR⟩ : ∃ R, lt k % 7 = R := ⟨_, rfl⟩
      rw [hQ] at hq0 hq1
      rw [hR] at hp0 hp1
      have HI := Lib.hid hI
      clear hI
      go_wp2_with (go_at_call 19; refine (pick_any _ _ _ (by assumption) (by assumption) (by omega) (by omega)).mono ?_; rintro e w2 ⟨rfl, hw2⟩; obtain rfl := hw2.symm)
      clear hQ hR hl0 hl1 hw0 hw1 hc0 hc1
      clear hw2
      have hST : KS L hs' T U Q w wr := ⟨HL.out.ob, HL.out.row, HL.out.names Q hq0 hq1, HL.out, HB.out⟩
      have HKS := Lib.hid hST
      clear hST
      by_cases hheld : 0 ≤ H ∧ H ≠ Q ∧ N + R < U
      · go_cut [11, 12] (fun s11 s12 wx => s12 = .iface 63 (.int .i64 17) ∧ Hid (Lay L hs' T U wx) ∧ Hid (Below w.heap.size w wx))
        case first =>
          as_aux_lemma =>
            obtain ⟨hh0, hh1, hh2⟩ := hheld
            have hS0 := HKS.out
            have hlt0 := ks_lt hS0
            have hne := nmOf_ne Q
            have hhs := HI.out.some hh0
            subst hhs
            have hneH := nmOf_ne H
            have hH3 := HI.out.h1
            have hneq : ((nmOf H).toList == (nmOf Q).toList) = false := nm_beq H Q ⟨hh0, hH3⟩ ⟨hq0, hq1⟩ hh1
            clear HL HB HKS hh1
            go_region_held3 (fun w' => isOb w' (L + 1) = true ∧ rowOf w' (L + 1) = lob 5 ⟨#[115, 99, 104, 101, 100]⟩ (nmOf H) T U ∧ w'.cell? ⟨L, Q.toNat, none⟩ = some (.string (nmOf Q)) ∧ Lay L (nmOf H) T U w' ∧ Below w.heap.size w w') ((first | assumption | exact ks_drew (by assumption) | exact ks_alloc (by assumption) _ | exact ks_below (by assumption) (by assumption) | exact ks_realloc (by assumption) (by omega) hwL _ | exact ks_setRow (by assumption) (by first | assumption | exact ks_lt (by assumption)) hwL _ zob_size)) ((first | (rw [run_obStore (isOb_alloc_at rfl obZero_size) zob_ok]; go_simp) | (rw [run_obStore obx zob_ok]; go_simp) | (go_at_call 8; refine (ltake_held 5 ⟨#[115, 99, 104, 101, 100]⟩ (nmOf H) T U (nmOf Q) (N + R) _ hne (by omega) (by omega) hneH hneq hh2).mono ?_; rintro e w2 ⟨rfl, hb⟩; have hz2 : wr.heap.size ≤ w2.heap.size := (by have hz := hb.size; simp at hz; omega); (try have obx := isOb_below hb (isOb_alloc_at (g := wr.heap.size) (by simp) obZero_size)))))
            all_goals
              rename_i hh
              go_wp2_with fail
              go_meet
              exact ⟨rfl, Lib.hid hh.2.2.2.1, Lib.hid hh.2.2.2.2⟩
        case rest =>
          as_aux_lemma =>
            obtain ⟨rfl, HL2, HB2⟩ := hcut
            obtain ⟨hh0, hh1, hh2⟩ := hheld
            have HD2 := Lib.hid (HD.out.below HB2.out)
            clear HL HB HKS
            go_wp2_with (go_at_call 9; refine (plain17 _ HD2.out).mono ?_; rintro e w4 ⟨rfl, hb4⟩)
            have HI2 := HI.out.held (by omega) ⟨hp0, by omega⟩
            go_roundg (n - (k + 1))
            case measure => omega
            case rel => exact ⟨k + 1, N + R, H, U, T, hs', rfl, HI2, by simp, rfl, rfl, rfl, rfl, Lib.hid (HL2.out.below hb4), Lib.hid (thenK HB2.out hb4)⟩
      · go_cut [11, 12] (fun s11 s12 wx => ∃ (bx : Nat) (T2 : Int), s11 = .pointer (some ⟨bx, 0, none⟩) ∧ s12 = .nilIface ∧ ((T2 = T + 1 ∧ U ≤ N + R) ∨ (T2 = T ∧ N + R < U ∧ H = Q)) ∧ L + 1 < bx ∧ isOb wx bx = true ∧ rowOf wx bx = lob 5 ⟨#[115, 99, 104, 101, 100]⟩ (nmOf Q) T2 (N + R + 4) ∧ Hid (Lay L hs' T U wx) ∧ Hid (Below w.heap.size w wx))
        case first =>
          have hS0 : KS L hs' T U Q w wr := ⟨HL.out.ob, HL.out.row, HL.out.names Q hq0 hq1, HL.out, HB.out⟩
          have hlt0 := ks_lt hS0
          have hne := nmOf_ne Q
          have ht0 := HI.out.t0
          have ht1 := HI.out.t1
          by_cases hov : U ≤ N + R
          · as_aux_lemma =>
              go_region_held3 (fun w' => isOb w' (L + 1) = true ∧ rowOf w' (L + 1) = lob 5 ⟨#[115, 99, 104, 101, 100]⟩ hs' T U ∧ w'.cell? ⟨L, Q.toNat, none⟩ = some (.string (nmOf Q)) ∧ Lay L hs' T U w' ∧ Below w.heap.size w w') ((first | assumption | exact ks_drew (by assumption) | exact ks_alloc (by assumption) _ | exact ks_below (by assumption) (by assumption) | exact ks_realloc (by assumption) (by omega) hwL _ | exact ks_setRow (by assumption) (by first | assumption | exact ks_lt (by assumption)) hwL _ (lob_size _ _ _ _ _))) ((first | (rw [run_obStore (isOb_alloc_at rfl obZero_size) (hr _ _ _ _ _)]; go_simp) | (rw [run_obStore obx (hr _ _ _ _ _)]; go_simp) | (go_at_call 8; refine (ltake_over 5 ⟨#[115, 99, 104, 101, 100]⟩ hs' T U (nmOf Q) (N + R) _ hne (by omega) (by omega) (by omega) (by omega) (by omega)).mono ?_; rintro e w2 ⟨rfl, hb⟩; have hz2 : wr.heap.size ≤ w2.heap.size := (by have hz := hb.size; simp at hz; omega); (try have obx := isOb_below hb (isOb_alloc_at (g := wr.heap.size) (by simp) obZero_size)))))
              all_goals
                rename_i hh
                go_wp2_with fail
                go_meet
                refine ⟨_, T + 1, rfl, rfl, .inl ⟨rfl, hov⟩, ?_, ?_, ?_, Lib.hid hh.2.2.2.1, Lib.hid hh.2.2.2.2⟩
                · omega
                · first | exact isOb_alloc_at rfl (lob_size _ _ _ _ _) | exact isOb_setRow obx (lob_size _ _ _ _ _)
                · first | exact rowOf_alloc_at rfl | exact rowOf_setRow obx
          · as_aux_lemma =>
              have hHQ : H = Q := by
                have h0 := HI.out.h0
                have hn := HI.out.none
                by_cases e : H = -1
                · exact absurd (hn e) (by omega)
                · exact Classical.byContradiction fun e2 => hheld ⟨by omega, e2, by omega⟩
              have hhs := HI.out.some (by omega)
              rw [hHQ] at hhs
              subst hhs
              have HHQ := Lib.hid hHQ
              clear hHQ
              go_region_held3 (fun w' => isOb w' (L + 1) = true ∧ rowOf w' (L + 1) = lob 5 ⟨#[115, 99, 104, 101, 100]⟩ (nmOf Q) T U ∧ w'.cell? ⟨L, Q.toNat, none⟩ = some (.string (nmOf Q)) ∧ Lay L (nmOf Q) T U w' ∧ Below w.heap.size w w') ((first | assumption | exact ks_drew (by assumption) | exact ks_alloc (by assumption) _ | exact ks_below (by assumption) (by assumption) | exact ks_realloc (by assumption) (by omega) hwL _ | exact ks_setRow (by assumption) (by first | assumption | exact ks_lt (by assumption)) hwL _ (lob_size _ _ _ _ _))) ((first | (rw [run_obStore (isOb_alloc_at rfl obZero_size) (hr _ _ _ _ _)]; go_simp) | (rw [run_obStore obx (hr _ _ _ _ _)]; go_simp) | (go_at_call 8; refine (ltake_keep 5 ⟨#[115, 99, 104, 101, 100]⟩ (nmOf Q) T U (N + R) _ hne (by omega) (by omega) (by omega) (by omega) (by omega)).mono ?_; rintro e w2 ⟨rfl, hb⟩; have hz2 : wr.heap.size ≤ w2.heap.size := (by have hz := hb.size; simp at hz; omega); (try have obx := isOb_below hb (isOb_alloc_at (g := wr.heap.size) (by simp) obZero_size)))))
              all_goals
                rename_i hh
                go_wp2_with fail
                go_meet
                refine ⟨_, T, rfl, rfl, .inr ⟨rfl, by omega, HHQ.out⟩, ?_, ?_, ?_, Lib.hid hh.2.2.2.1, Lib.hid hh.2.2.2.2⟩
                · omega
                · first | exact isOb_alloc_at rfl (lob_size _ _ _ _ _) | exact isOb_setRow obx (lob_size _ _ _ _ _)
                · first | exact rowOf_alloc_at rfl | exact rowOf_setRow obx
        case rest =>
          skip
          obtain ⟨bx, T2, rfl, rfl, hT2, hbx, hob, hrw, HL2, HB2⟩ := hcut
          have HKX : Hid (KX L bx (lob 5 ⟨#[115, 99, 104, 101, 100]⟩ (nmOf Q) T2 (N + R + 4)) hs' T U w wc) := Lib.hid ⟨hob, hrw, HL2.out, HB2.out⟩
          have HT2 := Lib.hid hT2
          have HHd := Lib.hid hheld
          clear HL2 HB2 HL HB HKS hT2 hheld hob hrw
          go_upto_region 17 with (fail)
          go_cut [13] (fun s13 wx => s13 = .bool false ∧ wx = wc)
          case first =>
            as_aux_lemma =>
              by_cases a : 0 ≤ H
              · by_cases b : H = Q
                · have b' : (H != Q) = false := by simp [b]
                  have b3 : (H == Q) = true := by simp [b]
                  clear b
                  go_wp2_with fail
                  go_meet
                  exact ⟨rfl, rfl⟩
                · have c : ¬ (N + R < U) := fun c => HHd.out ⟨a, b, c⟩
                  go_wp2_with fail
                  go_meet
                  exact ⟨rfl, rfl⟩
              · go_wp2_with fail
                go_meet
                exact ⟨rfl, rfl⟩
          case rest =>
            obtain ⟨rfl, hw9⟩ := hcut
            obtain rfl := hw9.symm
            clear hw9
            go_upto_region 23 with (fail)
            go_cut [77] (fun s77 wx => s77 = .bool (decide (¬ T2 = T)) ∧ wx = wc)
            case first =>
              as_aux_lemma =>
                have hT2 := HT2.out
                by_cases b : H = Q
                · have b' : (H != Q) = false := by simp [b]
                  have b3 : (H == Q) = true := by simp [b]
                  clear b
                  by_cases c : U ≤ N + R
                  · have ht : decide (¬ T2 = T) = true := by simp; omega
                    have HT := Lib.hid ht
                    clear hT2 ht
                    go_wp2_with fail
                    go_meet
                    exact ⟨by rw [HT.out], rfl⟩
                  · have ht : decide (¬ T2 = T) = false := by simp; omega
                    have HT := Lib.hid ht
                    clear hT2 ht
                    go_wp2_with fail
                    go_meet
                    exact ⟨by rw [HT.out], rfl⟩
                · have ht : decide (¬ T2 = T) = true := by simp; omega
                  have HT := Lib.hid ht
                  clear hT2 ht
                  go_wp2_with fail
                  go_meet
                  exact ⟨by rw [HT.out], rfl⟩
            case rest =>
              obtain ⟨rfl, hw9⟩ := hcut
              obtain rfl := hw9.symm
              clear hw9
              go_upto_if 77 with (fail)
              go_cut [8] (fun s8 wx => s8 = .int .i64 T2 ∧ Hid (KX L bx (lob 5 ⟨#[115, 99, 104, 101, 100]⟩ (nmOf Q) T2 (N + R + 4)) hs' T U w wx))
              case first =>
                as_aux_lemma =>
                  have hne := nmOf_ne Q
                  have hT2 := HT2.out
                  have hT0 := HI.out.t0
                  have hT1 := HI.out.t1
                  by_cases e : T2 = T
                  · have HE := Lib.hid e
                    have ht : decide (¬ T2 = T) = false := by simp [e]
                    rw [ht]
                    clear e ht hT2
                    go_wp2_with fail
                    go_meet
                    exact ⟨by rw [HE.out], HKX⟩
                  · have e2 : T2 = T + 1 := by omega
                    subst e2
                    clear hT2 e
                    have ht : decide (¬ T + 1 = T) = true := by simp; omega
                    rw [ht]
                    clear ht
                    have hd : decide (nmOf Q = nmOf Q ∧ T + 1 = T) = false := by simp; omega
                    have hY : KY L bx (lob 5 ⟨#[115, 99, 104, 101, 100]⟩ (nmOf Q) (T + 1) (N + R + 4)) hs' T U Q.toNat (.string (nmOf Q)) w wc := ⟨HKX.out.ob, HKX.out.row, HKX.out.lay.names Q hq0 hq1, HKX.out⟩
                    clear HKX
                    go_upto_region 24 with (fail)
                    go_region_held3 (fun w' => isOb w' bx = true ∧ rowOf w' bx = lob 5 ⟨#[115, 99, 104, 101, 100]⟩ (nmOf Q) (T + 1) (N + R + 4) ∧ w'.cell? ⟨L, Q.toNat, none⟩ = some (.string (nmOf Q)) ∧ KX L bx (lob 5 ⟨#[115, 99, 104, 101, 100]⟩ (nmOf Q) (T + 1) (N + R + 4)) hs' T U w w') ((first | assumption | exact ky_drew (by assumption) | exact ky_below (by assumption) (by assumption))) ((go_at_call 12; refine (lholdsB 5 ⟨#[115, 99, 104, 101, 100]⟩ (nmOf Q) (T + 1) (N + R + 4) (nmOf Q) T false _ hne hd).mono ?_; rintro e w4 ⟨rfl, hb4⟩))
                    all_goals
                      rename_i hh
                      go_wp2_with fail
                      go_meet
                      exact ⟨rfl, Lib.hid hh.2.2.2⟩
              case rest =>
                obtain ⟨rfl, HK8⟩ := hcut
                clear HKX
                have hne0 := nmOf_ne
                go_wp2_with fail
                have H0 := Lib.hid (HK8.out)
                go_loopg [14] 3 (fun gk s14 wx => ∃ j : Nat, j ≤ 3 ∧ gk = 3 - j ∧ s14 = .int .i64 j ∧ Hid (KX L bx (lob 5 ⟨#[115, 99, 104, 101, 100]⟩ (nmOf Q) T2 (N + R + 4)) hs' T U w wx))
                case atStart => exact ⟨0, by omega, rfl, rfl, HK8⟩
                case round =>
                  clear HK8 H0
                  obtain ⟨j, hj3, rfl, rfl, HK⟩ := hrel
                  by_cases hj : j < 3
                  · as_aux_lemma =>
                      have hd : decide (nmOf j = nmOf Q ∧ T2 = T2) = decide ((j : Int) = Q) := nm_dec j Q ⟨by omega, by omega⟩ ⟨hq0, hq1⟩ T2
                      have hd' : decide (nmOf Q = nmOf j ∧ T2 = T2) = decide ((j : Int) = Q) := by rw [← hd]; exact decide_eq_decide.2 ⟨fun h => ⟨h.1.symm, h.2⟩, fun h => ⟨h.1.symm, h.2⟩⟩
                      have hj1 : (j : Int) < 3 := by omega
                      have hY : KY L bx (lob 5 ⟨#[115, 99, 104, 101, 100]⟩ (nmOf Q) T2 (N + R + 4)) hs' T U j (.string (nmOf j)) w wr := ⟨HK.out.ob, HK.out.row, HK.out.lay.names j (by omega) hj1, HK.out⟩
                      have hne := nmOf_ne j
                      obtain ⟨b, hb1, hb2, hb3⟩ : ∃ b : Bool, decide (nmOf Q = nmOf j ∧ T2 = T2) = b ∧ ((j : Int) == Q) = b ∧ decide ((j : Int) = Q) = b := ⟨_, hd', by by_cases h : (j : Int) = Q <;> simp [h], rfl⟩
                      have HDD := Lib.hid hb1
                      clear hd hd' hb1 HK hne0
                      go_upto_region 30 with (fail)
                      go_region_held3 (fun w' => isOb w' bx = true ∧ rowOf w' bx = lob 5 ⟨#[115, 99, 104, 101, 100]⟩ (nmOf Q) T2 (N + R + 4) ∧ w'.cell? ⟨L, j, none⟩ = some (.string (nmOf j)) ∧ KX L bx (lob 5 ⟨#[115, 99, 104, 101, 100]⟩ (nmOf Q) T2 (N + R + 4)) hs' T U w w') ((first | assumption | exact ky_drew (by assumption) | exact ky_below (by assumption) (by assumption))) ((go_at_call 12; refine (lholdsB 5 ⟨#[115, 99, 104, 101, 100]⟩ (nmOf Q) T2 (N + R + 4) (nmOf j) T2 b _ hne HDD.out).mono ?_; rintro e w4 ⟨rfl, hb4⟩))
                      all_goals
                        rename_i hh
                        go_wp2_with fail
                        go_roundg (3 - (j + 1))
                        case measure => omega
                        case rel => exact ⟨j + 1, by omega, rfl, by simp, Lib.hid hh.2.2.2⟩
                  · as_aux_lemma =>
                      have h30 : ∀ (k : Int) (nm h : ByteArray) (t u : Int) (hp : 30 < (lob k nm h t u).size), (lob k nm h t u)[30]'hp = (.int .i64 t) := fun _ _ _ _ _ _ => rfl
                      have h31 : ∀ (k : Int) (nm h : ByteArray) (t u : Int) (hp : 31 < (lob k nm h t u).size), (lob k nm h t u)[31]'hp = (.int .i64 u) := fun _ _ _ _ _ _ => rfl
                      have h00 : ∀ (k : Int) (nm h : ByteArray) (t u : Int) (hp : 0 < (lob k nm h t u).size), (lob k nm h t u)[0]'hp = (.int .i64 k) := fun _ _ _ _ _ _ => rfl
                      have h01 : ∀ (k : Int) (nm h : ByteArray) (t u : Int) (hp : 1 < (lob k nm h t u).size), (lob k nm h t u)[1]'hp = (.string nm) := fun _ _ _ _ _ _ => rfl
                      have ho := HK.out.ob
                      have hro := HK.out.row
                      have hol := HK.out.lay.ob
                      have hrl := HK.out.lay.row
                      go_wp2_with (first | (go_at_call 14; first | ((refine loverFm 5 ⟨#[115, 99, 104, 101, 100]⟩ (nmOf Q) T2 (N + R + 4) _ _ _ ?_ ?_); (focus omega)) | ((refine loverTm 5 ⟨#[115, 99, 104, 101, 100]⟩ (nmOf Q) T2 (N + R + 4) _ _ _ ?_ ?_); (focus omega))); rintro e w4 ⟨rfl, hb4⟩; have HK := Lib.hid (HK.out.below hb4); clear hb4 ho hro hol hrl; have ho := HK.out.ob; have hro := HK.out.row; have hol := HK.out.lay.ob; have hrl := HK.out.lay.row)
                      have hkL := isOb_lt hol
                      have HI2 := HI.out.take (by omega) ⟨hp0, by omega⟩ ⟨hq0, hq1⟩ HT2.out
                      go_roundg (n - (k + 1))
                      case measure => omega
                      case rel => exact ⟨k + 1, N + R, Q, N + R + 4, T2, nmOf Q, rfl, HI2, by simp, rfl, rfl, rfl, rfl, Lib.hid (HK.out.lay.put _ _ _), Lib.hid (bSetRow HK.out.bel (by omega) _)⟩
    · go_wp2
      go_ret
      exact ⟨rfl, HB.out⟩
end Go.Proofs.YtdcnojjcffkmaaaDoor
