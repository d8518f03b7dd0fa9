/- QuestionFollows: places that replies lead to are those of the reference, also in plans in which something was changed. Conditions: none beside the card's own. -/
import Derived.Test.YtoiemkifgdnhaaaGreatDoorF3
import Derived.Test.YtoiemkifgdnhaaaGreatDoorL15
import Derived.Test.YtoiemkifgdnhaaaGreatDoorCards
import Derived.Test.YtoiemkifgdnhaaaGreatDoorTie
import Derived.SevenTiedAt
namespace Go.Proofs.YtoiemkifgdnhaaaGreatDoor
open Go Go.ChangeShapes Go.WideShapes Go.ChangeAt Go.WideMaps Go.WideElems Go.RowKit Go.Deep
set_option maxRecDepth 100000 in
theorem und_arr3 : Tryz.prog.underlying 49 = some (.array 3 3) := by kernel_rfl
set_option maxRecDepth 100000 in
theorem c_arr3 : Tryz.prog.cellsOf 49 = 3 := by kernel_rfl
set_option maxRecDepth 100000 in
theorem open_arr3 {H : Type} {enc : TypeId × Value → H} {W W' : World} {v : Value} {d : DataW H} {p : List MemPlace} {r : Reach} {b0 : Nat} (h : DataW.Trod enc Tryz.prog W 0 (fun _ => true) true 49 v d p) (hv : Value.okWide Tryz.prog W' r b0 49 v) :
    ∃ a b c : Int, v = .agg #[.int .i64 a, .int .i64 b, .int .i64 c] ∧ -9223372036854775808 ≤ c ∧ c ≤ 9223372036854775807 := by
  simp only [Value.okWide, und_arr3] at hv
  obtain ⟨cs, rfl, h2, _⟩ := hv
  rw [c_arr3] at h2
  obtain ⟨c0, c1, c2, rfl⟩ : ∃ c0 c1 c2, cs = #[c0, c1, c2] := by
    rcases cs with ⟨l⟩
    match l, h2 with
    | [a, b, c], _ => exact ⟨a, b, c, rfl⟩
  obtain ⟨fuel, hf⟩ := h
  obtain ⟨xs, m, rfl, hx, _, hn, hel⟩ := DataW.trod_array und_arr3 hf
  rw [ci_] at hel
  have k : ∀ i, i < 3 → ∃ z, ([c0, c1, c2] : List Value)[i]? = some (.int .i64 z) ∧ -9223372036854775808 ≤ z ∧ z ≤ 9223372036854775807 := by
    intro i hi
    have h1 := hel i hi
    rw [List.getElem?_eq_getElem (by omega)] at h1
    obtain ⟨r, e1, _, e3⟩ := DataW.trod_int und_int h1
    refine ⟨r, ?_, wf_int e3⟩
    have h3 := congrArg (fun l => l[0]?) e1
    simp only [List.getElem?_cons_zero, Nat.mul_one] at h3
    rw [List.getElem?_take_of_lt (by omega), List.getElem?_drop, Nat.add_zero] at h3
    simpa [Value.cells] using h3
  obtain ⟨a, ha, _⟩ := k 0 (by omega)
  obtain ⟨b, hb, _⟩ := k 1 (by omega)
  obtain ⟨c, hc, hc2⟩ := k 2 (by omega)
  simp only [List.getElem?_cons_zero, List.getElem?_cons_succ, Option.some.injEq] at ha hb hc
  exact ⟨a, b, c, by rw [ha, hb, hc], hc2⟩
set_option maxRecDepth 100000 in
theorem follows_lifted (os : Os) (started : os.Started) (H : Type) (enc : TypeId × Value → H) :
    ReturnsInHanded {} Tryz.checked os 6 .any (fun w args => (Rows.questionFollowsSpec.pre enc Tryz.prog Tryz.f6 [] false w args ∧ laidMetH Tryz.prog laidL w) ∧ sizedMet enc Tryz.prog Tryz.f6 (OpenSpec.ofChange Rows.questionFollowsSpec) false w args)
      (Rows.questionFollowsSpec.post enc Tryz.prog Tryz.f6 false true false false) := by
  have hps : Tryz.f6.params = #[22, 26, 49] := by kernel_rfl
  refine returnsInHanded_of_change_and (C := Tryz.checked) (X := fun w _ => laidMetH Tryz.prog laidL w) (fun _ _ _ hh h => h.of_heap hh) own started (by kernel_rfl) Tryz.func6
    (ChangeSpec.witness_shaped (enc := enc) (C := Tryz.checked) (os := os) (X := fun w _ => laidMetH Tryz.prog laidL w) false (World.doorLaid Tryz.prog 400 os) #[.slice none 0 0, .slice none 0 0, .agg #[.int .i64 0, .int .i64 0, .int .i64 0]] 8 rfl (World.shaped_of_RefB (by kernel_rfl) (by kernel_rfl)) (by kernel_rfl) (by kernel_rfl) (by kernel_rfl) (door_met os _)) ?_
  intro W base args ds gs before hval hW _ hreach hL _
  have hW' := hW
  obtain ⟨p, q, hA, hV, hpq, _, _⟩ := hW
  obtain ⟨rfl, rfl⟩ := trodVars_none hV
  rw [hps] at hA hval
  obtain ⟨v0, v1, v2, d0, d1, d2, q0, q1, q2, rfl, rfl, rfl, h0, h1, h2⟩ := trodAll_three hA
  obtain ⟨hG, hT⟩ := of_laid hL
  obtain ⟨L, hI⟩ := open_rows h0 (okWide_slice und_rows (hval 0 22 v0 rfl rfl)) (each_le hreach (j := 0) (by rw [hps]; rfl) rfl) (fun x hx => hW'.lt x (by rw [hpq]; simp [hx]))
  obtain ⟨X, hX⟩ := open_nums h1 (okWide_slice und_ints (hval 1 26 v1 rfl rfl)) (each_le hreach (j := 1) (by rw [hps]; rfl) rfl)
  obtain ⟨a, b, c, rfl, hc⟩ := open_arr3 h2 (hval 2 49 v2 rfl rfl)
  refine (Follows_walk W v0 v1 L X a b c hI hX hG hT hc).mono fun e W' ⟨he, hb⟩ => ⟨_, he, law_post rfl hW' rfl (by kernel_rfl) ?_ hb⟩
  intro t ht
  rw [hps] at ht
  simp at ht
  rcases ht with rfl | rfl | rfl
  · exact ⟨by kernel_rfl, of_decide_eq_true (by kernel_rfl)⟩
  · exact ⟨by kernel_rfl, of_decide_eq_true (by kernel_rfl)⟩
  · exact ⟨by kernel_rfl, of_decide_eq_true (by kernel_rfl)⟩
set_option maxRecDepth 100000 in
theorem follows_holds : Rows.QuestionFollowsSaid :=
  OpenClaim.holds_of_wide 6 Tryz.f6 rfl rfl rfl rfl rfl rfl rfl ⟨rfl, rfl, rfl, rfl, rfl⟩ rfl rfl rfl rfl rfl (by kernel_rfl) Tryz.func6 (by kernel_rfl)
    (of_decide_eq_true (by kernel_rfl)) (by unfold Func.isWrapper; first | (rw [if_pos (by decide +kernel)]; kernel_rfl) | (rw [if_neg (by decide +kernel)]; exact ⟨rfl, rfl⟩))
    (fun os started H enc _ => follows_lifted os started H enc)
set_option maxRecDepth 100000 in
theorem questionFollows_card : Rows.QuestionFollowsCardSaid :=
  Claim7.holds_tied_plain_at .later [] [.data, .data, .data] true (true, "99680d1923bd443de5ce69d696f98a92105a70d94b497bd2190f085194b2210b") false
    follows_holds (fun _ h => by cases h) (by kernel_rfl) (fun _ h => by cases h) questionFollows_row_tie rfl ⟨rfl, rfl⟩ (by kernel_rfl) rfl
    (fun f fn hf hfn => by
      obtain rfl : f = 6 := Option.some.inj ((show Tryz.prog.funcNamed "concord/concordlaw25.QuestionFollows" = some 6 by kernel_rfl).symm.trans hf) |>.symm
      obtain rfl : fn = Tryz.f6 := (Option.some.inj (Tryz.func6.symm.trans hfn)).symm
      exact ⟨by kernel_rfl, fun j t ht => by
        rw [show Tryz.f6.params = #[22, 26, 49] by kernel_rfl] at ht
        have hm : t ∈ [22, 26, 49] := by simpa using Array.mem_of_getElem? ht
        have hall : ([22, 26, 49].all fun u => !Tryz.prog.wantsStandIn u) = true := by kernel_rfl
        exact (show Tryz.prog.wantsStandIn t = false by simpa using List.all_eq_true.1 hall t hm)⟩)
    (by kernel_rfl)
end Go.Proofs.YtoiemkifgdnhaaaGreatDoor
