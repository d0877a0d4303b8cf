/-
  flotilla/flotillalaw17.LeaseTerms returns true whatever script it is given; the script reads behind it as it read before; memory that was there is as it was.
  The listed variable errors.errorType is tied to the program's text by the card.
-/
import Derived.Test.YtdcnojjcffkmaaaDoorTerms
import Derived.Test.YtdcnojjcffkmaaaDoorStay
import Derived.Test.YtdcnojjcffkmaaaDoorDoor
import Derived.Test.YtdcnojjcffkmaaaDoorCards
import Derived.Test.YtdcnojjcffkmaaaDoorTie
import Derived.SevenTiedAt
namespace Go.Proofs.YtdcnojjcffkmaaaDoor
open Go Go.ChangeShapes Go.WideShapes Go.RowKit Go.Deep

/-- The script, opened. -/
theorem acts_open {H : Type} {enc : TypeId × Value → H} {W : World} {a : Option Addr} {len cap : Nat} {d : DataW H} {ps : List MemPlace} (h : DataW.Trod enc Tryd.prog W 0 (fun _ => true) true 56 (.slice a len cap) d ps) :
    ∃ wh lt : Nat → Int, (∀ j, -9223372036854775808 ≤ lt j) ∧ (∀ j, lt j ≤ 9223372036854775807) ∧ (∀ j, -9223372036854775808 ≤ wh j) ∧ (∀ j, wh j ≤ 9223372036854775807) ∧
      (0 < len → ∃ ad, a = some ad ∧ ∀ j, j < len → W.cell? (ad.add (j * 2)) = some (.int .i64 (wh j)) ∧ W.cell? (ad.add (j * 2 + 1)) = some (.int .i64 (lt j))) := by
  obtain ⟨n, hn⟩ := h
  rcases open_slice_pairs Tryd.underlying56 Tryd.underlying60 (by kernel_rfl) rfl rfl (by kernel_rfl) (by kernel_rfl) hn with ⟨hc, hx⟩ | ⟨ad, len', cap', m, k, V0, V1, D0, D1, P0, P1, hc, _, hl, hm, hmm, hx, hall⟩
  · have hc' : Value.slice a len cap = .slice none 0 0 := by simpa [Value.cells] using hc
    simp only [Value.slice.injEq] at hc'
    obtain ⟨rfl, rfl, rfl⟩ := hc'
    exact ⟨fun _ => 0, fun _ => 0, fun _ => by simp, fun _ => by simp, fun _ => by simp, fun _ => by simp, fun h => absurd h (by omega)⟩
  · have hc' : Value.slice a len cap = .slice (some ad) len' cap' := by simpa [Value.cells] using hc
    simp only [Value.slice.injEq] at hc'
    obtain ⟨rfl, rfl, rfl⟩ := hc'
    simp only [if_true] at hmm
    have hi : ∀ i, i < len → ∃ q : Int × Int, V0 i = .int .i64 q.1 ∧ V1 i = .int .i64 q.2 ∧ (Lit.int .i64 q.1).wf = true ∧ (Lit.int .i64 q.2).wf = true := fun i hi => by
      obtain ⟨_, _, h0, h1⟩ := hall i (by omega)
      obtain ⟨x, hx0, _, wx⟩ := DataW.trod_int Tryd.underlying3 h0
      obtain ⟨y, hy0, _, wy⟩ := DataW.trod_int Tryd.underlying3 h1
      simp only [List.cons.injEq, and_true] at hx0 hy0
      exact ⟨(x, y), hx0, hy0, wx, wy⟩
    obtain ⟨q, hq⟩ := choose_lt hi
    refine ⟨fun j => if j < len then (q j).1 else 0, fun j => if j < len then (q j).2 else 0, ?_, ?_, ?_, ?_, fun _ => ⟨ad, rfl, fun j hj => ?_⟩⟩
    · intro j; by_cases h : j < len
      · simp only [h, if_true]; exact (bounds_i64 (hq j h).2.2.2).1
      · simp only [h, if_false]; omega
    · intro j; by_cases h : j < len
      · simp only [h, if_true]; exact (bounds_i64 (hq j h).2.2.2).2
      · simp only [h, if_false]; omega
    · intro j; by_cases h : j < len
      · simp only [h, if_true]; exact (bounds_i64 (hq j h).2.2.1).1
      · simp only [h, if_false]; omega
    · intro j; by_cases h : j < len
      · simp only [h, if_true]; exact (bounds_i64 (hq j h).2.2.1).2
      · simp only [h, if_false]; omega
    · obtain ⟨g0, g1, _, _⟩ := hall j (by omega)
      simp only [hj, if_true]
      rw [g0, g1, (hq j hj).1, (hq j hj).2.1]
      exact ⟨rfl, rfl⟩

set_option maxHeartbeats 4000000 in
theorem terms17_long (A : Option Addr) (n c : Nat) (w : World) (hn : 1000 < n) :
    Calls Tryd.prog 4 #[.slice A n c] w fun e w' => e = .returned (.bool true) ∧ Below w.heap.size w w' := by
  have hn' : (1000 : Int) < n := by omega
  go_enter Tryd.func4, Tryd.ntmps4
  go_wp2_with (go_at_call 18; refine (works17 _).mono ?_; rintro e w1 ⟨rfl, Hq1⟩)
  go_ret
  exact ⟨rfl, Hq1⟩

theorem terms17_any {H : Type} {enc : TypeId × Value → H} {W : World} {a : Option Addr} {len cap : Nat} {d : DataW H} {ps : List MemPlace} (h : DataW.Trod enc Tryd.prog W 0 (fun _ => true) true 56 (.slice a len cap) d ps) (hd : Door W) :
    Calls Tryd.prog 4 #[.slice a len cap] W fun e w' => e = .returned (.bool true) ∧ Below W.heap.size W w' := by
  by_cases hn : len ≤ 1000
  · obtain ⟨wh, lt, h1, h2, h3, h4, h5⟩ := acts_open h
    exact terms17 a len cap wh lt W hd hn h1 h2 h3 h4 h5
  · exact terms17_long a len cap W (by omega)

set_option maxRecDepth 100000 in
theorem leaseTerms_lifted (os : Os) (started : os.Started) (H : Type) (enc : TypeId × Value → H) :
    ReturnsInHanded {} Tryd.checked os 4 .any (fun w args => (Rows.leaseTermsSpec.pre enc Tryd.prog Tryd.f4 [] false w args ∧ laidMetH Tryd.prog theLaid w) ∧ sizedMet enc Tryd.prog Tryd.f4 (OpenSpec.ofChange Rows.leaseTermsSpec) false w args)
      (Rows.leaseTermsSpec.post enc Tryd.prog Tryd.f4 false true false false) := by
  refine returnsInHanded_of_change_and (C := Tryd.checked) (X := fun w _ => laidMetH Tryd.prog theLaid w) (fun _ _ _ hh h => h.of_heap hh) Tryd.own started (by kernel_rfl) Tryd.func4
    (ChangeSpec.witness_at (enc := enc) (C := Tryd.checked) (os := os) (X := fun w _ => laidMetH Tryd.prog theLaid w) false (laidWorld os) #[.slice none 0 0] 8 rfl (by kernel_rfl) (by kernel_rfl) (by kernel_rfl) (by kernel_rfl) (by kernel_rfl) (laidWorld_met os _)) ?_
  intro W base args ds gs before hval0 hW _ _ hL _
  have hW' := hW
  obtain ⟨p, q, hA0, hV0, rfl, hfz, hnd⟩ := hW
  have hA : DataW.TrodAll enc Tryd.prog W 0 (fun _ => true) true Tryd.f4.params.toList args.toList ds p := hA0
  have hV : DataW.TrodVars enc Tryd.prog W (fun _ => true) [] gs q := hV0
  rw [Tryd.params4] at hA
  obtain ⟨v, d, rfl, rfl, hT⟩ := trodAll_one hA
  obtain ⟨a, len, cap, rfl⟩ := okWide_slice Tryd.underlying56 (hval0 0 56 _ rfl rfl)
  have hg := door_of_laid hL
  obtain ⟨rfl, rfl⟩ : gs = [] ∧ q = [] := by
    cases gs with
    | nil => exact ⟨rfl, hV⟩
    | cons g r => exact absurd hV (by intro h; cases h)
  have e1 : Rows.leaseTermsSpec.fn H ([d] ++ []) = { results := [.lit (.bool true)], args := [d] } := by simp [Rows.leaseTermsSpec]
  refine (terms17_any hT hg).mono fun e W' ⟨he, hb⟩ => ?_
  subst he
  have hlt : ∀ x ∈ p, x.block < W.heap.size := DataW.TrodAll.lt hA
  refine ⟨_, rfl, _, _, _, [], p, [], hW', ?_, ?_, ?_, hb.frame _, fun h => by cases h⟩
  · rw [e1]; exact trodAll_mk1 (shut_bool Tryd.underlying4 true)
  · rw [e1]; exact trodAll_mk1 (stay1 (by kernel_rfl) (by decide) hT hb _ (fun x hx => by simpa using hlt x hx))
  · rw [e1]; rfl

theorem leaseTerms_said : Rows.LeaseTermsSaid :=
  OpenClaim.holds_of_wide 4 Tryd.f4 rfl rfl rfl rfl rfl rfl rfl ⟨rfl, rfl, rfl, rfl, rfl⟩ rfl rfl rfl rfl rfl (by kernel_rfl) Tryd.func4 (by kernel_rfl)
    (of_decide_eq_true (by kernel_rfl)) (by unfold Func.isWrapper; rw [if_neg (of_decide_eq_false (by kernel_rfl))]; exact ⟨rfl, rfl⟩)
    (fun os started H enc _ => leaseTerms_lifted os started H enc)

theorem acts_plain : Tryd.pinned.checked.prog.wantsStandIn 56 = false := by kernel_rfl

/-- The tied card. -/
theorem leaseTerms_card : Rows.LeaseTermsCardSaid :=
  Claim7.holds_tied_plain_at .later [] _ _ _ _
    leaseTerms_said (fun _ h => by cases h) (by kernel_rfl) (fun _ h => by cases h) leaseTerms_row_tie rfl ⟨rfl, rfl⟩ (by kernel_rfl) rfl
    (fun f fn hf hfn => by
      obtain rfl : f = 4 := Option.some.inj ((show Tryd.prog.funcNamed "flotilla/flotillalaw17.LeaseTerms" = some 4 by kernel_rfl).symm.trans hf) |>.symm
      obtain rfl : fn = Tryd.f4 := (Option.some.inj (Tryd.func4.symm.trans hfn)).symm
      exact ⟨by kernel_rfl, fun j t ht => by
        rw [Tryd.params4] at ht
        match j, ht with
        | 0, ht => simp at ht; subst ht; exact acts_plain
        | j + 1, ht => simp at ht⟩)
    (by kernel_rfl)
#print axioms leaseTerms_card
end Go.Proofs.YtdcnojjcffkmaaaDoor
