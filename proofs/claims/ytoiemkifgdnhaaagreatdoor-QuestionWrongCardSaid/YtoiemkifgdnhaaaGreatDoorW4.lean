/- QuestionWrong: answers that are not right, or too many, and horizons that are not permitted, have the errors of the reference. Conditions: none beside the card's own. -/
import Derived.Test.YtoiemkifgdnhaaaGreatDoorW3
import Derived.Test.YtoiemkifgdnhaaaGreatDoorL15
import Derived.Test.YtoiemkifgdnhaaaGreatDoorCards
import Derived.Test.YtoiemkifgdnhaaaGreatDoorTie
import Derived.SevenTiedAt
namespace Go.Proofs.YtoiemkifgdnhaaaGreatDoor
open Go Go.ChangeShapes Go.WideShapes Go.ChangeAt Go.WideMaps Go.WideElems Go.RowKit Go.Deep
theorem open_u8 {H : Type} {enc : TypeId × Value → H} {W : World} {c : Int} {d : DataW H} {p : List MemPlace} (h : DataW.Trod enc Tryz.prog W 0 (fun _ => true) true 5 (.int .u8 c) d p) : 0 ≤ c ∧ c < 256 := by
  obtain ⟨fuel, hf⟩ := h
  obtain ⟨r, h1, _, h3⟩ := DataW.trod_int u8_ hf
  simp [Value.cells] at h1
  subst h1
  simp only [Lit.wf, IntKind.min, IntKind.max, Bool.and_eq_true, decide_eq_true_eq] at h3
  simp [IntKind.signed, IntKind.bits] at h3
  omega
set_option maxRecDepth 100000 in
theorem wrong_lifted (os : Os) (started : os.Started) (H : Type) (enc : TypeId × Value → H) :
    ReturnsInHanded {} Tryz.checked os 5 .any (fun w args => (Rows.questionWrongSpec.pre enc Tryz.prog Tryz.f5 [] false w args ∧ laidMetH Tryz.prog laidL w) ∧ sizedMet enc Tryz.prog Tryz.f5 (OpenSpec.ofChange Rows.questionWrongSpec) false w args)
      (Rows.questionWrongSpec.post enc Tryz.prog Tryz.f5 false true false false) := by
  have hps : Tryz.f5.params = #[22, 5, 3] := by kernel_rfl
  refine returnsInHanded_of_change_and (C := Tryz.checked) (X := fun w _ => laidMetH Tryz.prog laidL w) (fun _ _ _ hh h => h.of_heap hh) own started (by kernel_rfl) Tryz.func5
    (ChangeSpec.witness_shaped (enc := enc) (C := Tryz.checked) (os := os) (X := fun w _ => laidMetH Tryz.prog laidL w) false (World.doorLaid Tryz.prog 400 os) #[.slice none 0 0, .int .u8 0, .int .i64 0] 8 rfl (World.shaped_of_RefB (by kernel_rfl) (by kernel_rfl)) (by kernel_rfl) (by kernel_rfl) (by kernel_rfl) (door_met os _)) ?_
  intro W base args ds gs before hval hW _ hreach hL _
  have hW' := hW
  obtain ⟨p, q, hA, hV, hpq, _, _⟩ := hW
  obtain ⟨rfl, rfl⟩ := trodVars_none hV
  rw [hps] at hA hval
  obtain ⟨v0, v1, v2, d0, d1, d2, q0, q1, q2, rfl, rfl, rfl, h0, h1, h2⟩ := trodAll_three hA
  obtain ⟨hG, hT⟩ := of_laid hL
  obtain ⟨L, hI⟩ := open_rows h0 (okWide_slice und_rows (hval 0 22 v0 rfl rfl)) (each_le hreach (j := 0) (by rw [hps]; rfl) rfl) (fun x hx => hW'.lt x (by rw [hpq]; simp [hx]))
  obtain ⟨c, rfl⟩ := okWide_int u8_ (hval 1 5 v1 rfl rfl)
  have hc := open_u8 h1
  obtain ⟨z, rfl⟩ := okWide_int und_int (hval 2 3 v2 rfl rfl)
  refine (Wrong_walk W v0 L c z hI hG hT hc).mono fun e W' ⟨he, hb⟩ => ⟨_, he, law_post rfl hW' rfl (by kernel_rfl) ?_ hb⟩
  intro t ht
  rw [hps] at ht
  simp at ht
  rcases ht with rfl | rfl | rfl
  · exact ⟨by kernel_rfl, of_decide_eq_true (by kernel_rfl)⟩
  · exact ⟨by kernel_rfl, of_decide_eq_true (by kernel_rfl)⟩
  · exact ⟨by kernel_rfl, of_decide_eq_true (by kernel_rfl)⟩
set_option maxRecDepth 100000 in
theorem wrong_holds : Rows.QuestionWrongSaid :=
  OpenClaim.holds_of_wide 5 Tryz.f5 rfl rfl rfl rfl rfl rfl rfl ⟨rfl, rfl, rfl, rfl, rfl⟩ rfl rfl rfl rfl rfl (by kernel_rfl) Tryz.func5 (by kernel_rfl)
    (of_decide_eq_true (by kernel_rfl)) (by unfold Func.isWrapper; first | (rw [if_pos (by decide +kernel)]; kernel_rfl) | (rw [if_neg (by decide +kernel)]; exact ⟨rfl, rfl⟩))
    (fun os started H enc _ => wrong_lifted os started H enc)
set_option maxRecDepth 100000 in
theorem questionWrong_card : Rows.QuestionWrongCardSaid :=
  Claim7.holds_tied_plain_at .later [] [.data, .data, .data] true (true, "99680d1923bd443de5ce69d696f98a92105a70d94b497bd2190f085194b2210b") false
    wrong_holds (fun _ h => by cases h) (by kernel_rfl) (fun _ h => by cases h) questionWrong_row_tie rfl ⟨rfl, rfl⟩ (by kernel_rfl) rfl
    (fun f fn hf hfn => by
      obtain rfl : f = 5 := Option.some.inj ((show Tryz.prog.funcNamed "concord/concordlaw25.QuestionWrong" = some 5 by kernel_rfl).symm.trans hf) |>.symm
      obtain rfl : fn = Tryz.f5 := (Option.some.inj (Tryz.func5.symm.trans hfn)).symm
      exact ⟨by kernel_rfl, fun j t ht => by
        rw [show Tryz.f5.params = #[22, 5, 3] by kernel_rfl] at ht
        have hm : t ∈ [22, 5, 3] := by simpa using Array.mem_of_getElem? ht
        have hall : ([22, 5, 3].all fun u => !Tryz.prog.wantsStandIn u) = true := by kernel_rfl
        exact (show Tryz.prog.wantsStandIn t = false by simpa using List.all_eq_true.1 hall t hm)⟩)
    (by kernel_rfl)
end Go.Proofs.YtoiemkifgdnhaaaGreatDoor
