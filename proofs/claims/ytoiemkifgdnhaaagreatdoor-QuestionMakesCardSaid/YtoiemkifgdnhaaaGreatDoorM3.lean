/- QuestionMakes: plans are those of the reference, and are accepted. Conditions: none beside the card's own. -/
import Derived.Test.YtoiemkifgdnhaaaGreatDoorM2
import Derived.Test.YtoiemkifgdnhaaaGreatDoorL15
import Derived.Test.YtoiemkifgdnhaaaGreatDoorCards
import Derived.Test.YtoiemkifgdnhaaaGreatDoorTie
import Derived.SevenTiedAt
namespace Go.Proofs.YtoiemkifgdnhaaaGreatDoor
open Go Go.ChangeShapes Go.WideShapes Go.ChangeAt Go.WideMaps Go.WideElems Go.RowKit Go.Deep
set_option maxRecDepth 100000 in
theorem makes_lifted (os : Os) (started : os.Started) (H : Type) (enc : TypeId × Value → H) :
    ReturnsInHanded {} Tryz.checked os 3 .any (fun w args => (Rows.questionMakesSpec.pre enc Tryz.prog Tryz.f3 [] false w args ∧ laidMetH Tryz.prog laidL w) ∧ sizedMet enc Tryz.prog Tryz.f3 (OpenSpec.ofChange Rows.questionMakesSpec) false w args)
      (Rows.questionMakesSpec.post enc Tryz.prog Tryz.f3 false true false false) := by
  have hps : Tryz.f3.params = #[22, 3] := by kernel_rfl
  refine returnsInHanded_of_change_and (C := Tryz.checked) (X := fun w _ => laidMetH Tryz.prog laidL w) (fun _ _ _ hh h => h.of_heap hh) own started (by kernel_rfl) Tryz.func3
    (ChangeSpec.witness_shaped (enc := enc) (C := Tryz.checked) (os := os) (X := fun w _ => laidMetH Tryz.prog laidL w) false (World.doorLaid Tryz.prog 400 os) #[.slice none 0 0, .int .i64 0] 8 rfl (World.shaped_of_RefB (by kernel_rfl) (by kernel_rfl)) (by kernel_rfl) (by kernel_rfl) (by kernel_rfl) (door_met os _)) ?_
  intro W base args ds gs before hval hW _ hreach hL _
  have hW' := hW
  obtain ⟨p, q, hA, hV, hpq, _, _⟩ := hW
  obtain ⟨rfl, rfl⟩ := trodVars_none hV
  rw [hps] at hA hval
  obtain ⟨v0, v1, d0, d1, q0, q1, rfl, rfl, rfl, h0, h1⟩ := trodAll_two hA
  obtain ⟨hG, hT⟩ := of_laid hL
  obtain ⟨L, hI⟩ := open_rows h0 (okWide_slice und_rows (hval 0 22 v0 rfl rfl)) (each_le hreach (j := 0) (by rw [hps]; rfl) rfl) (fun x hx => hW'.lt x (by rw [hpq]; simp [hx]))
  obtain ⟨z, rfl⟩ := okWide_int und_int (hval 1 3 v1 rfl rfl)
  refine (Makes_walk W v0 L z hI hG hT).mono fun e W' ⟨he, hb⟩ => ⟨_, he, law_post rfl hW' rfl (by kernel_rfl) ?_ hb⟩
  intro t ht
  rw [hps] at ht
  simp at ht
  rcases ht with rfl | rfl
  · exact ⟨by kernel_rfl, of_decide_eq_true (by kernel_rfl)⟩
  · exact ⟨by kernel_rfl, of_decide_eq_true (by kernel_rfl)⟩
set_option maxRecDepth 100000 in
theorem makes_holds : Rows.QuestionMakesSaid :=
  OpenClaim.holds_of_wide 3 Tryz.f3 rfl rfl rfl rfl rfl rfl rfl ⟨rfl, rfl, rfl, rfl, rfl⟩ rfl rfl rfl rfl rfl (by kernel_rfl) Tryz.func3 (by kernel_rfl)
    (of_decide_eq_true (by kernel_rfl)) (by unfold Func.isWrapper; first | (rw [if_pos (by decide +kernel)]; kernel_rfl) | (rw [if_neg (by decide +kernel)]; exact ⟨rfl, rfl⟩))
    (fun os started H enc _ => makes_lifted os started H enc)
set_option maxRecDepth 100000 in
theorem questionMakes_card : Rows.QuestionMakesCardSaid :=
  Claim7.holds_tied_plain_at .later [] [.data, .data, .data] true (true, "99680d1923bd443de5ce69d696f98a92105a70d94b497bd2190f085194b2210b") false
    makes_holds (fun _ h => by cases h) (by kernel_rfl) (fun _ h => by cases h) questionMakes_row_tie rfl ⟨rfl, rfl⟩ (by kernel_rfl) rfl
    (fun f fn hf hfn => by
      obtain rfl : f = 3 := Option.some.inj ((show Tryz.prog.funcNamed "concord/concordlaw25.QuestionMakes" = some 3 by kernel_rfl).symm.trans hf) |>.symm
      obtain rfl : fn = Tryz.f3 := (Option.some.inj (Tryz.func3.symm.trans hfn)).symm
      exact ⟨by kernel_rfl, fun j t ht => by
        rw [show Tryz.f3.params = #[22, 3] by kernel_rfl] at ht
        have hm : t ∈ [22, 3] := by simpa using Array.mem_of_getElem? ht
        have hall : ([22, 3].all fun u => !Tryz.prog.wantsStandIn u) = true := by kernel_rfl
        exact (show Tryz.prog.wantsStandIn t = false by simpa using List.all_eq_true.1 hall t hm)⟩)
    (by kernel_rfl)
end Go.Proofs.YtoiemkifgdnhaaaGreatDoor
