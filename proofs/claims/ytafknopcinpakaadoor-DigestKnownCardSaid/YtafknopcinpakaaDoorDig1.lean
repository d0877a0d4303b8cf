/-
  digest.sum's bytes, number and fields, digest.Of: what each makes of a digest that goes on; nothing else that was there is changed.
  Conditions: as each theorem states them.
-/
import Derived.Test.YtafknopcinpakaaDoorKeep
import Derived.Test.YtafknopcinpakaaDoorErr
import Derived.Outline
import Derived.RangeFuncBox
import Derived.Lib.ConvBytes
namespace Go.Proofs.YtafknopcinpakaaDoor
open Go.RowKit Go.Extern.Stop Go.Stop Go.Extern
set_option linter.unusedVariables false
set_option linter.unusedSimpArgs false
set_option maxRecDepth 100000

/-- One byte more. -/
def fstep (h : Int) (c : Int) : Int := IntKind.u64.wrap (bits BinOp.xor IntKind.u64 h (IntKind.u64.wrap c) * 1099511628211)
/-- Some bytes more. -/
def fnv (h : Int) (bs : List Int) : Int := bs.foldl fstep h
theorem gTrans {w w1 w2 : World} {r : Option Nat} (h : w.grownBy w1 r) (k : w1.grownBy w2 r) : w.grownBy w2 r :=
  ⟨k.os.trans h.os, k.tape.trans h.tape, k.output.trans h.output, Nat.le_trans h.size k.size, fun i hi hr => (k.block i (Nat.lt_of_lt_of_le hi h.size) hr).trans (h.block i hi hr)⟩
theorem fnv_snoc (h : Int) (l : List Int) (c : Int) : fnv h (l ++ [c]) = fstep (fnv h l) c := by simp [fnv]
theorem take_snocI (l : List Int) (k : Nat) (h : k < l.length) : l.take (k + 1) = l.take k ++ [l.getD k 0] := by
  rw [List.take_succ_eq_append_getElem h]; simp [h]

set_option maxHeartbeats 400000 in
theorem dbytes (g : Nat) (h : Int) (A : Option Addr) (c : Nat) (bs : List Int) (w : World) (hg : Boxed w g 42 (.int .u64 h)) (hl : bs.length ≤ 140737488351232)
    (hr : ∀ j, j < bs.length → 0 ≤ bs.getD j 0 ∧ bs.getD j 0 ≤ 255 ∧ ∃ b off, A = some ⟨b, off, none⟩ ∧ b ≠ g ∧ w.cell? ⟨b, off + j, none⟩ = some (.int .u8 (bs.getD j 0))) :
    Calls Tryd.prog 11 #[.pointer (some ⟨g, 0, none⟩), .slice A bs.length c] w fun e w' => e = .returned (.tuple #[]) ∧ Boxed w' g 42 (.int .u64 (fnv h bs)) ∧ w.grownBy w' (some g) := by
  go_enter Tryd.func11, Tryd.ntmps11
  go_wp2
  go_loopw [8] (fun i wr => ∃ k : Nat, k ≤ bs.length ∧ i = .int .i64 k ∧ Boxed wr g 42 (.int .u64 (fnv h (bs.take k))) ∧ w.grownBy wr (some g)) (fun i _ => bs.length - (intOf i).toNat)
  case atStart => exact ⟨0, Nat.zero_le _, rfl, by simpa [fnv] using hg, ⟨rfl, rfl, rfl, Nat.le_refl _, fun _ _ _ => rfl⟩⟩
  case round =>
    obtain ⟨k, hk, rfl, hb, hgr⟩ := hrel
    by_cases hlt : k < bs.length
    · obtain ⟨h0, h1, b, off, rfl, hne, hc⟩ := hr k hlt
      replace hc := hgr.cell hc (by simp; exact hne)
      have hcell := hb.cell
      have hfroz := hb.frozen
      clear hr
      have hf : fnv h (bs.take (k + 1)) = IntKind.u64.wrap (bits BinOp.xor IntKind.u64 (fnv h (bs.take k)) (IntKind.u64.wrap bs[k]) * 1099511628211) := by rw [take_snocI bs k hlt, fnv_snoc]; simp [fstep, hlt]
      have HF := Lib.hid hf
      have HB := Lib.hid hb
      clear hf hb
      go_wp2
      go_roundw
      case rel => exact ⟨k + 1, by omega, by go_num, by rw [HF.out]; exact HB.out.set _, gTrans hgr (grownBy_setCell' _ _ _)⟩
      case measure => simp [intOf]; omega
    · have hk' : k = bs.length := by omega
      subst hk'
      go_wp2
      go_end0
      exact ⟨rfl, by simpa using hb, hgr⟩

/-- A number's bytes. -/
def numBs (v : Int) : Nat → List Int
  | 0 => []
  | k + 1 => numBs v k ++ [v / 256 ^ k % 256]
/-- A number more. -/
def fnum (h n : Int) : Int := fnv h (numBs (IntKind.u64.wrap n) 8)
theorem numBs_len (v : Int) : ∀ k, (numBs v k).length = k
  | 0 => rfl
  | k + 1 => by simp [numBs, numBs_len v k]
theorem fnv_num (h v : Int) (k : Nat) : fnv h (numBs v (k + 1)) = fstep (fnv h (numBs v k)) (v / 256 ^ k % 256) := by rw [numBs, fnv_snoc]

theorem one_read (b : Nat) {g : Nat} (hne : g < b) (w : World) (off : Nat) (x : Int) (h0 : 0 ≤ x) (h1 : x ≤ 255) (hc : w.cell? ⟨b, off, none⟩ = some (.int .u8 x)) :
    ∀ j, j < [x].length → 0 ≤ [x].getD j 0 ∧ [x].getD j 0 ≤ 255 ∧ ∃ b' off', some (⟨b, off, none⟩ : Addr) = some ⟨b', off', none⟩ ∧ b' ≠ g ∧ w.cell? ⟨b', off' + j, none⟩ = some (.int .u8 ([x].getD j 0)) := by
  intro j hj
  obtain rfl : j = 0 := by simp at hj; omega
  exact ⟨h0, h1, b, off, rfl, by omega, hc⟩
set_option maxHeartbeats 400000 in
theorem dnumber (g : Nat) (h n : Int) (w : World) (hg : Boxed w g 42 (.int .u64 h)) :
    Calls Tryd.prog 23 #[.pointer (some ⟨g, 0, none⟩), .int .i64 n] w fun e w' => e = .returned (.tuple #[]) ∧ Boxed w' g 42 (.int .u64 (fnum h n)) ∧ w.grownBy w' (some g) := by
  go_enter Tryd.func23, Tryd.ntmps23
  go_wp2
  go_loopw [4, 7] (fun v i wr => ∃ k : Nat, k ≤ 8 ∧ i = .int .i64 k ∧ v = .int .u64 (IntKind.u64.wrap n / 256 ^ k) ∧ Boxed wr g 42 (.int .u64 (fnv h (numBs (IntKind.u64.wrap n) k))) ∧ w.grownBy wr (some g)) (fun _ i _ => 8 - (intOf i).toNat)
  case atStart => exact ⟨0, by omega, rfl, by simp, by simpa [fnv, numBs] using hg, World.grownBy.refl _ _⟩
  case round =>
    obtain ⟨k, hk, rfl, rfl, hb, hgr⟩ := hrel
    have hglt := hb.lt
    by_cases hlt : k < 8
    · have hdiv : IntKind.u64.wrap n / 256 ^ k / 256 = IntKind.u64.wrap n / 256 ^ (k + 1) := by rw [Int.ediv_ediv_of_nonneg (Int.le_of_lt (Int.pow_pos (by decide))), ← Int.pow_succ]
      have hf := fnv_num h (IntKind.u64.wrap n) k
      have HD := Lib.hid hdiv
      have HF := Lib.hid hf
      have HB := Lib.hid hb
      have HG := Lib.hid hgr
      clear hdiv hf hb hgr
      generalize IntKind.u64.wrap n / 256 ^ k = V at *
      go_wp2_with (go_at_call 11; refine (dbytes g _ (some ⟨wr.heap.size, 0, none⟩) 1 [V % 256] _ (HB.out.alloc _) (by simp) (one_read _ (by omega) _ _ (V % 256) (by omega) (by omega) (cellA (newA _ _) rfl))).mono ?_; rintro e w1 ⟨rfl, hb1, hg1⟩)
      have HB1 := Lib.hid hb1
      clear hb1
      go_roundw
      case rel => exact ⟨k + 1, by omega, by go_num, by rw [HD.out], by rw [HF.out]; exact HB1.out, gTrans (gTrans HG.out (World.grownBy_alloc _ _ _)) hg1⟩
      case measure => simp [intOf]; omega
    · have hk' : k = 8 := by omega
      subst hk'
      go_wp2
      go_end0
      exact ⟨rfl, hb, hgr⟩

/-- What fields takes: a number, a text. -/
inductive It where
  | n (v : Int)
  | s (v : ByteArray)
def It.val : It → Value
  | .n v => .iface 3 (.int .i64 v)
  | .s v => .iface 9 (.string v)
def bsOf (s : ByteArray) : List Int := s.data.toList.map fun c => (c.toNat : Int)
def It.add (h : Int) : It → Int
  | .n v => fnum h v
  | .s v => fnv (fnum h v.size) (bsOf v)
def flds (h : Int) (l : List It) : Int := l.foldl It.add h
theorem flds_snoc (h : Int) (l : List It) (x : It) : flds h (l ++ [x]) = x.add (flds h l) := by simp [flds]
theorem take_snocX {α : Type} (l : List α) (k : Nat) (h : k < l.length) : l.take (k + 1) = l.take k ++ [l[k]] := by
  rw [List.take_succ_eq_append_getElem h]
theorem ta33 (v : Int) (w : World) : (Instr.typeAssert (.iface 3 (.int .i64 v)) 20 3 true).run Tryd.prog w = .ok (.tuple #[.int .i64 v, .bool true]) w := by kernel_rfl
theorem ta93 (v : ByteArray) (w : World) : (Instr.typeAssert (.iface 9 (.string v)) 20 3 true).run Tryd.prog w = .ok (.tuple #[.int .i64 0, .bool false]) w := by kernel_rfl
theorem ta99 (v : ByteArray) (w : World) : (Instr.typeAssert (.iface 9 (.string v)) 20 9 true).run Tryd.prog w = .ok (.tuple #[.string v, .bool true]) w := by kernel_rfl
theorem dbytesN (g : Nat) (h : Int) (A : Option Addr) (n c : Nat) (bs : List Int) (w : World) (hn : bs.length = n) (hg : Boxed w g 42 (.int .u64 h)) (hl : bs.length ≤ 140737488351232)
    (hr : ∀ j, j < bs.length → 0 ≤ bs.getD j 0 ∧ bs.getD j 0 ≤ 255 ∧ ∃ b off, A = some ⟨b, off, none⟩ ∧ b ≠ g ∧ w.cell? ⟨b, off + j, none⟩ = some (.int .u8 (bs.getD j 0))) :
    Calls Tryd.prog 11 #[.pointer (some ⟨g, 0, none⟩), .slice A n c] w fun e w' => e = .returned (.tuple #[]) ∧ Boxed w' g 42 (.int .u64 (fnv h bs)) ∧ w.grownBy w' (some g) := by
  subst hn; exact dbytes g h A c bs w hg hl hr
theorem bsOf_len (s : ByteArray) : (bsOf s).length = s.size := by simp [bsOf]
theorem bsOf_read (s : ByteArray) (w : World) (g : Nat) (hg : g < w.heap.size) (e : TypeId) : ∀ j, j < (bsOf s).length → 0 ≤ (bsOf s).getD j 0 ∧ (bsOf s).getD j 0 ≤ 255 ∧ ∃ b off, some (⟨w.heap.size, 0, none⟩ : Addr) = some ⟨b, off, none⟩ ∧ b ≠ g ∧ (Lib.bytesWorld w e s).cell? ⟨b, off + j, none⟩ = some (.int .u8 ((bsOf s).getD j 0)) := by
  intro j hj
  rw [bsOf_len] at hj
  have hj' : j < s.data.toList.length := by simpa using hj
  have e1 : (bsOf s).getD j 0 = ((s.data.toList.getD j 0).toNat : Int) := by simp [bsOf, List.getD, hj]
  rw [e1]
  have h2 := (s.data.toList.getD j 0).toNat_lt
  exact ⟨by omega, by omega, w.heap.size, 0, rfl, by omega, by rw [Nat.zero_add]; exact Lib.bytesWorld_cell w e s j hj⟩
theorem bytesWorld_grown (w : World) (e : TypeId) (s : ByteArray) (r : Option Nat) : w.grownBy (Lib.bytesWorld w e s) r :=
  ⟨rfl, rfl, rfl, by rw [Lib.bytesWorld_size]; omega, fun k hk _ => Lib.bytesWorld_at_old w e s k hk⟩
set_option maxHeartbeats 400000 in
theorem dfields (g : Nat) (h : Int) (A : Option Addr) (c : Nat) (l : List It) (w : World) (hg : Boxed w g 42 (.int .u64 h)) (hl : l.length ≤ 1000)
    (hr : ∀ j (hj : j < l.length), (∀ s, l[j] = .s s → s.size ≤ 1000) ∧ ∃ b off, A = some ⟨b, off, none⟩ ∧ b ≠ g ∧ w.cell? ⟨b, off + j, none⟩ = some (l[j]).val) :
    Calls Tryd.prog 15 #[.pointer (some ⟨g, 0, none⟩), .slice A l.length c] w fun e w' => e = .returned (.tuple #[]) ∧ Boxed w' g 42 (.int .u64 (flds h l)) ∧ w.grownBy w' (some g) := by
  have t1 := ta33
  have t2 := ta93
  have t3 := ta99
  go_enter Tryd.func15, Tryd.ntmps15
  go_wp2
  go_loopw [10] (fun i wr => ∃ k : Nat, k ≤ l.length ∧ i = .int .i64 k ∧ Boxed wr g 42 (.int .u64 (flds h (l.take k))) ∧ w.grownBy wr (some g)) (fun i _ => l.length - (intOf i).toNat)
  case atStart => exact ⟨0, Nat.zero_le _, rfl, by simpa [flds] using hg, World.grownBy.refl _ _⟩
  case round =>
    obtain ⟨k, hk, rfl, hb, hgr⟩ := hrel
    have hglt := hb.lt
    by_cases hlt : k < l.length
    · obtain ⟨hss, b, off, rfl, hne, hc⟩ := hr k hlt
      replace hc := hgr.cell hc (by simp; exact hne)
      have hf := flds_snoc h (l.take k) l[k]
      rw [← take_snocX l k hlt] at hf
      clear hr
      have HB := Lib.hid hb
      have HG := Lib.hid hgr
      clear hb hgr
      generalize l[k] = X at *
      cases X with
      | n v =>
        have HF := Lib.hid hf
        clear hf
        clear hss
        replace hc : wr.cell? ⟨b, off + k, none⟩ = some (.iface 3 (.int .i64 v)) := hc
        go_wp2_with (go_at_call 23; refine (dnumber g _ v _ HB.out).mono ?_; rintro e w1 ⟨rfl, hb1, hg1⟩; have HB1 := Lib.hid hb1; clear hb1)
        go_roundw
        case rel => exact ⟨k + 1, by omega, by go_num, by rw [HF.out]; exact HB1.out, gTrans HG.out hg1⟩
        case measure => simp [intOf]; omega
      | s v =>
        have HF := Lib.hid hf
        clear hf
        have hs := hss v rfl
        clear hss
        replace hc : wr.cell? ⟨b, off + k, none⟩ = some (.iface 9 (.string v)) := hc
        have cv := fun W => Lib.run_convert_string_bytes (P := Tryd.prog) W 9 25 5 v Tryd.underlying9 Tryd.underlying25 Tryd.underlying5
        go_wp2_with (first | (go_at_call 23; refine (dnumber g _ v.size _ HB.out).mono ?_; rintro e w1 ⟨rfl, hb1, hg1⟩; have HB1 := Lib.hid hb1; have HG1 := Lib.hid hg1; clear hb1 hg1) | (go_at_call 11; refine (dbytesN g _ (some ⟨w1.heap.size, 0, none⟩) v.size _ (bsOf v) _ (bsOf_len v) ((HB1.out).kept (bytesWorld_grown w1 _ v none) (by simp)) (by rw [bsOf_len]; omega) (bsOf_read v w1 g HB1.out.lt _)).mono ?_; rintro e w2 ⟨rfl, hb2, hg2⟩; have HB2 := Lib.hid hb2; have HG2 := Lib.hid hg2; clear hb2 hg2))
        go_roundw
        case rel => exact ⟨k + 1, by omega, by go_num, by rw [HF.out]; exact HB2.out, gTrans HG.out (gTrans HG1.out (gTrans (bytesWorld_grown w1 _ v _) HG2.out))⟩
        case measure => simp [intOf]; omega
    · have hk' : k = l.length := by omega
      subst hk'
      go_wp2
      go_end0
      exact ⟨rfl, by simpa using hb, hgr⟩
end Go.Proofs.YtafknopcinpakaaDoor
