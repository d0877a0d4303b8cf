/-
  digest.Parse: what it answers; nothing that was there is changed.
  Conditions: as each theorem states them.
-/
import Derived.Test.YtafknopcinpakaaDoorDig3
import Derived.Lib.Bytealg
namespace Go.Proofs.YtafknopcinpakaaDoor
open Go.RowKit Go.Extern.Stop Go.Stop Go.Extern
set_option linter.unusedVariables false
set_option linter.unusedSimpArgs false
set_option maxRecDepth 100000

def idx (c : UInt8) : Int := Lib.indexByte ltrs.data.toList c
def pst (h n : Int) : Int := bits BinOp.or IntKind.u64 (IntKind.u64.wrap (h * 32)) (IntKind.u64.wrap n)
def pr : List UInt8 → Nat → Int → Option Int
  | [], _, h => some h
  | c :: r, i, h => if idx c < 0 ∨ (i = 0 ∧ 15 < idx c) then none else pr r (i + 1) (pst h (idx c))
def parse (s : ByteArray) : Option Int := if s.size = 13 then pr s.data.toList 0 0 else none

theorem callIdx (s : ByteArray) (c : Int) (w : World) : (callFunc 24 #[.string s, .int .u8 c]).run Tryd.prog w = .ok (.value (.int .i64 (Lib.indexByte s.data.toList (UInt8.ofNat c.toNat)))) w := by
  rw [@run_callFunc_extern Tryd.prog 24 _ (Go.Extern.BytealgIndexByte.indexByte) Tryd.func24 (by kernel_rfl) (by kernel_rfl) (by kernel_rfl) (by kernel_rfl), Lib.run_indexByteString]; rfl
theorem slIdx (s : ByteArray) (c : Int) (w : World) : Calls Tryd.prog 17 #[.string s, .int .u8 c] w fun e w' => e = .returned (.int .i64 (Lib.indexByte s.data.toList (UInt8.ofNat c.toNat))) ∧ w = w' := by
  have e1 := callIdx
  go_enter Tryd.func17, Tryd.ntmps17
  go_wp2
  go_ret
  exact ⟨rfl, rfl⟩
theorem strIdx (s : ByteArray) (c : UInt8) (w : World) : Calls Tryd.prog 12 #[.string s, .int .u8 (c.toNat : Int)] w fun e w' => e = .returned (.int .i64 (Lib.indexByte s.data.toList c)) ∧ w = w' := by
  have hc : UInt8.ofNat (c.toNat : Int).toNat = c := by simp
  have HC := Lib.hid hc
  clear hc
  go_enter Tryd.func12, Tryd.ntmps12
  go_wp2_with (go_at_call 17; refine (slIdx _ _ _).mono ?_; rintro e w2 ⟨rfl, rfl⟩)
  go_ret
  exact ⟨rfl, rfl⟩
theorem idx_ge (c : UInt8) : -1 ≤ idx c := Lib.indexByte_ge _ _

set_option maxHeartbeats 1000000 in
theorem dparse_len (s : ByteArray) (w : World) (h : s.size ≠ 13) (hs : s.size ≤ 1000) :
    Calls Tryd.prog 7 #[.string s] w fun e w' => e = .returned (.tuple #[.int .u64 0, .iface 45 (.int .i64 4)]) ∧ Below w.heap.size w w' := by
  have hne : ((s.size : Int) != 13) = true := by rw [bne_iff_ne]; omega
  have hne' : ((s.size : Int) == 13) = false := by rw [beq_eq_false_iff_ne]; omega
  go_enter Tryd.func7, Tryd.ntmps7
  go_wp2
  go_ret2
  exact ⟨rfl, Below.refl _ _⟩
set_option maxHeartbeats 1000000 in
theorem dparse (s : ByteArray) (w : World) (h : s.size = 13) :
    Calls Tryd.prog 7 #[.string s] w fun e w' => e = .returned (match parse s with | some v => .tuple #[.int .u64 v, .nilIface] | none => .tuple #[.int .u64 0, .iface 45 (.int .i64 4)]) ∧ Below w.heap.size w w' := by
  have hp : parse s = pr s.data.toList 0 0 := by simp [parse, h]
  rw [hp]
  have hl : s.data.toList.length = 13 := by simpa using h
  generalize hR : pr s.data.toList 0 0 = R
  have HR := Lib.hid hR
  clear hR hp
  have H := Lib.hid h
  have hne : ((s.size : Int) != 13) = false := by simp [h]
  clear h
  go_enter Tryd.func7, Tryd.ntmps7
  go_wp2
  go_loop [4, 13] (fun hv i => ∃ (k : Nat) (h : Int), k ≤ 13 ∧ i = .int .i64 k ∧ hv = .int .u64 h ∧ Hid (pr (s.data.toList.drop k) k h = R)) (fun _ i => 13 - (intOf i).toNat)
  case atStart => exact ⟨0, 0, Nat.zero_le _, rfl, rfl, HR⟩
  case round =>
    obtain ⟨k, h, hk, rfl, rfl, HI⟩ := hrel
    have hsz : s.size = 13 := H.out
    by_cases hlt : k < 13
    · have hks : k < s.size := by omega
      have hlt' : (k : Int) < s.size := by omega
      have hstep : pr (s.data.toList.drop k) k h = if idx s[k] < 0 ∨ (k = 0 ∧ 15 < idx s[k]) then none else pr (s.data.toList.drop (k + 1)) (k + 1) (pst h (idx s[k])) := by
        rw [List.drop_eq_getElem_cons (by simpa using hks)]; rfl
      rw [HI.out] at hstep
      have HS := Lib.hid hstep
      clear hstep HI
      have hge := idx_ge s[k]
      have hcall := fun W => strIdx ltrs s[k] W
      rw [show Lib.indexByte ltrs.data.toList s[k] = idx s[k] from rfl] at hcall
      have HC := Lib.hid hcall
      clear hcall hsz
      generalize idx s[k] = n at *
      by_cases hn : n < 0
      · have hf : R = none := by rw [HS.out, if_pos (.inl hn)]
        subst hf
        clear HS
        go_wp2_with (go_at_call 12; refine ((HC.out) _).mono ?_; rintro e w2 ⟨rfl, rfl⟩)
        go_ret2
        exact ⟨rfl, Below.refl _ _⟩
      · have hn0 : 0 ≤ n := by omega
        by_cases h0 : k = 0
        · subst h0
          by_cases h15 : 15 < n
          · have hf : R = none := by rw [HS.out, if_pos (.inr ⟨rfl, h15⟩)]
            subst hf
            clear HS
            go_wp2_with (go_at_call 12; refine ((HC.out) _).mono ?_; rintro e w2 ⟨rfl, rfl⟩)
            go_ret2
            exact ⟨rfl, Below.refl _ _⟩
          · have hf := HS.out
            rw [if_neg (by omega)] at hf
            have HF := Lib.hid hf
            clear hf HS
            go_wp2_with (go_at_call 12; refine ((HC.out) _).mono ?_; rintro e w2 ⟨rfl, rfl⟩)
            go_round
            case rel => exact ⟨1, _, by omega, by go_num, rfl, Lib.hid (by have h2 := HF.out.symm; unfold pst at h2; rw [IntWalk.u64_in n (by omega)] at h2; exact h2)⟩
            case measure => simp [intOf]
        · have hf := HS.out
          rw [if_neg (by omega)] at hf
          have HF := Lib.hid hf
          have hk0 : ((k : Int) == 0) = false := by rw [beq_eq_false_iff_ne]; omega
          clear hf HS
          go_wp2_with (go_at_call 12; refine ((HC.out) _).mono ?_; rintro e w2 ⟨rfl, rfl⟩)
          go_round
          case rel => exact ⟨k + 1, _, by omega, by go_num, rfl, Lib.hid HF.out.symm⟩
          case measure => simp [intOf]; omega
    · have hk' : k = 13 := by omega
      subst hk'
      have hf : R = some h := by rw [← HI.out, List.drop_of_length_le (by omega)]; rfl
      subst hf
      clear HI
      have hsz : (s.size : Int) = 13 := by rw [H.out]; rfl
      go_wp2
      go_ret2
      exact ⟨rfl, Below.refl _ _⟩
end Go.Proofs.YtafknopcinpakaaDoor
