/- QuestionTells: whoever follows the plan of six, with one program's own replies, ends, within the depth, at programs that are alike. Conditions: none beside the card's own. -/
import Derived.Test.YtoiemkifgdnhaaaGreatDoorT1
import Derived.Test.YtoiemkifgdnhaaaGreatDoorL15
import Derived.Test.YtoiemkifgdnhaaaGreatDoorCards
import Derived.Test.YtoiemkifgdnhaaaGreatDoorTie
import Derived.SevenTiedAt
namespace Go.Proofs.YtoiemkifgdnhaaaGreatDoor
open Go Go.ChangeShapes Go.WideShapes Go.ChangeAt Go.WideMaps Go.WideElems Go.RowKit Go.Deep
theorem und_byte : Tryz.prog.underlying 5 = some (.int .u8) := by kernel_rfl
theorem open_byte {H : Type} {enc : TypeId × Value → H} {W : World} {v : Value} {d : DataW H} {p : List MemPlace} (h : DataW.Trod enc Tryz.prog W 0 (fun _ => true) true 5 v d p) (hv : ∃ n, v = .int .u8 n) : ∃ x : Nat, x ≤ 255 ∧ v = .int .u8 x := by
  obtain ⟨n, rfl⟩ := hv
  obtain ⟨fuel, hf⟩ := h
  obtain ⟨r, h1, _, h3⟩ := DataW.trod_int und_byte hf
  simp [Value.cells] at h1
  subst h1
  simp only [Lit.wf, IntKind.min, IntKind.max, Bool.and_eq_true, decide_eq_true_eq] at h3
  simp [IntKind.signed, IntKind.bits] at h3
  exact ⟨n.toNat, by omega, by rw [Int.toNat_of_nonneg (by omega)]⟩
set_option maxRecDepth 100000 in
theorem tells_lifted (os : Os) (started : os.Started) (H : Type) (enc : TypeId × Value → H) :
    ReturnsInHanded {} Tryz.checked os 7 .any (fun w args => (Rows.questionTellsSpec.pre enc Tryz.prog Tryz.f7 [] false w args ∧ laidMetH Tryz.prog laidL w) ∧ sizedMet enc Tryz.prog Tryz.f7 (OpenSpec.ofChange Rows.questionTellsSpec) false w args)
      (Rows.questionTellsSpec.post enc Tryz.prog Tryz.f7 false true false false) := by
  have hps : Tryz.f7.params = #[22, 5] := by kernel_rfl
  refine returnsInHanded_of_change_and (C := Tryz.checked) (X := fun w _ => laidMetH Tryz.prog laidL w) (fun _ _ _ hh h => h.of_heap hh) own started (by kernel_rfl) Tryz.func7
    (ChangeSpec.witness_shaped (enc := enc) (C := Tryz.checked) (os := os) (X := fun w _ => laidMetH Tryz.prog laidL w) false (World.doorLaid Tryz.prog 400 os) #[.slice none 0 0, .int .u8 0] 8 rfl (World.shaped_of_RefB (by kernel_rfl) (by kernel_rfl)) (by kernel_rfl) (by kernel_rfl) (by kernel_rfl) (door_met os _)) ?_
  intro W base args ds gs before hval hW _ hreach hL _
  have hW' := hW
  obtain ⟨p, q, hA, hV, hpq, _, _⟩ := hW
  obtain ⟨rfl, rfl⟩ := trodVars_none hV
  rw [hps] at hA hval
  obtain ⟨v0, v1, d0, d1, q0, q1, rfl, rfl, rfl, h0, h1⟩ := trodAll_two hA
  obtain ⟨hG, hT⟩ := of_laid hL
  obtain ⟨L, hI⟩ := open_rows h0 (okWide_slice und_rows (hval 0 22 v0 rfl rfl)) (each_le hreach (j := 0) (by rw [hps]; rfl) rfl) (fun x hx => hW'.lt x (by rw [hpq]; simp [hx]))
  obtain ⟨x, hx, rfl⟩ := open_byte h1 (okWide_int und_byte (hval 1 5 v1 rfl rfl))
  refine (Tells_walk W v0 x hx L hI hG hT).mono fun e W' ⟨he, hb⟩ => ⟨_, he, law_post rfl hW' rfl (by kernel_rfl) ?_ hb⟩
  intro t ht
  rw [hps] at ht
  simp at ht
  rcases ht with rfl | rfl
  · exact ⟨by kernel_rfl, of_decide_eq_true (by kernel_rfl)⟩
  · exact ⟨by kernel_rfl, of_decide_eq_true (by kernel_rfl)⟩
set_option maxRecDepth 100000 in
theorem tells_holds : Rows.QuestionTellsSaid :=
  OpenClaim.holds_of_wide 7 Tryz.f7 rfl rfl rfl rfl rfl rfl rfl ⟨rfl, rfl, rfl, rfl, rfl⟩ rfl rfl rfl rfl rfl (by kernel_rfl) Tryz.func7 (by kernel_rfl)
    (of_decide_eq_true (by kernel_rfl)) (by unfold Func.isWrapper; first | (rw [if_pos (by decide +kernel)]; kernel_rfl) | (rw [if_neg (by decide +kernel)]; exact ⟨rfl, rfl⟩))
    (fun os started H enc _ => tells_lifted os started H enc)
set_option maxRecDepth 100000 in
theorem questionTells_card : Rows.QuestionTellsCardSaid :=
  Claim7.holds_tied_plain_at .later [] [.data, .data, .data] true (true, "99680d1923bd443de5ce69d696f98a92105a70d94b497bd2190f085194b2210b") false
    tells_holds (fun _ h => by cases h) (by kernel_rfl) (fun _ h => by cases h) questionTells_row_tie rfl ⟨rfl, rfl⟩ (by kernel_rfl) rfl
    (fun f fn hf hfn => by
      obtain rfl : f = 7 := Option.some.inj ((show Tryz.prog.funcNamed "concord/concordlaw25.QuestionTells" = some 7 by kernel_rfl).symm.trans hf) |>.symm
      obtain rfl : fn = Tryz.f7 := (Option.some.inj (Tryz.func7.symm.trans hfn)).symm
      exact ⟨by kernel_rfl, fun j t ht => by
        rw [show Tryz.f7.params = #[22, 5] by kernel_rfl] at ht
        have hm : t ∈ [22, 5] := by simpa using Array.mem_of_getElem? ht
        have hall : ([22, 5].all fun u => !Tryz.prog.wantsStandIn u) = true := by kernel_rfl
        exact (show Tryz.prog.wantsStandIn t = false by simpa using List.all_eq_true.1 hall t hm)⟩)
    (by kernel_rfl)
end Go.Proofs.YtoiemkifgdnhaaaGreatDoor
