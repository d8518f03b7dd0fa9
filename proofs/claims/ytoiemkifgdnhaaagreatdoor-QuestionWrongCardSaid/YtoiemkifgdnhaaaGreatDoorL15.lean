/- The frame of a law: what the listed variables give, the arguments as they read, what is to be shown behind the call. No conditions.
  The arguments of a law: lists of lists of numbers, lists of numbers, as they read. No conditions. -/
import Derived.Test.YtoiemkifgdnhaaaGreatDoorL14
import Derived.Test.YtoiemkifgdnhaaaGreatDoorRows
import Derived.Deep.Matrix
import Derived.ProofKit
import Derived.LaidMore
import Derived.OpenShut
import Derived.Stop.Joined
import Derived.WideKeyArgs
import Derived.ChangeSame
namespace Go.Proofs.YtoiemkifgdnhaaaGreatDoor
open Go Go.ChangeShapes Go.WideShapes Go.ChangeAt Go.WideMaps Go.WideElems Go.RowKit Go.Deep
theorem own : ownKnob Tryz.prog.godebug = none := by kernel_rfl
theorem laidOut : laidOutB Tryz.prog = true := by kernel_rfl
theorem g0_ : Tryz.prog.globalNamed "math/bits.deBruijn32tab" = some 0 := by kernel_rfl
theorem g1_ : Tryz.prog.globalNamed "math/bits.deBruijn64tab" = some 1 := by kernel_rfl
theorem g2_ : Tryz.prog.globalNamed "concord/decimal.powers" = some 2 := by kernel_rfl
theorem t1_ : (Tryz.prog.globals[1]?).map (·.type) = some 171 := by kernel_rfl
theorem t2_ : (Tryz.prog.globals[2]?).map (·.type) = some 175 := by kernel_rfl
theorem u1_ : Tryz.prog.underlying 171 = some (.array 64 5) := by kernel_rfl
theorem u2_ : Tryz.prog.underlying 175 = some (.array 19 3) := by kernel_rfl
theorem u8_ : Tryz.prog.underlying 5 = some (.int .u8) := by kernel_rfl
theorem c8_ : Tryz.prog.cellsOf 5 = 1 := by kernel_rfl
theorem ci_ : Tryz.prog.cellsOf 3 = 1 := by kernel_rfl
theorem crow_ : Tryz.prog.cellsOf 26 = 1 := by kernel_rfl
/-- A variable that is an array of integers. -/
theorem laid_ints {H : Type} {enc : TypeId × Value → H} {W : World} {base : Nat} {spare : Nat → Bool} {held : Bool} {fuel n : Nat} {t e : TypeId} {k : IntKind} {cs : List Value} {zs : List Int} {q : List MemPlace}
    (ht : Tryz.prog.underlying t = some (.array n e)) (he : Tryz.prog.underlying e = some (.int k)) (hc : Tryz.prog.cellsOf e = 1) (hl : zs.length = n)
    (h : DataW.trod enc Tryz.prog W base spare held fuel t cs = some (.agg (zs.map fun z => .lit (.int k z)), q)) : ∀ i, i < n → cs[i]? = some (.int k (zs.getD i 0)) := by
  obtain ⟨xs, m, rfl, hx, _, hn, hel⟩ := DataW.trod_array ht h
  intro i hi
  have h1 := hel i hi
  rw [List.getElem?_eq_getElem (by omega)] at h1
  obtain ⟨r, e1, e2, _⟩ := DataW.trod_int he h1
  simp only [Prod.mk.injEq, DataW.agg.injEq] at hx
  have h2 := congrArg (fun l => l[i]?) hx.1
  simp only [List.getElem?_map] at h2
  rw [List.getElem?_eq_getElem (show i < zs.length by omega), List.getElem?_eq_getElem (show i < xs.length by omega)] at h2
  simp only [Option.map_some, Option.some.injEq] at h2
  rw [e2] at h2
  simp only [DataW.lit.injEq, Lit.int.injEq, true_and] at h2
  rw [hc, Nat.mul_one] at e1
  have h3 : ((cs.drop i).take 1)[0]? = some (.int k r) := by rw [e1]; rfl
  rw [List.getElem?_take_of_lt (by omega), List.getElem?_drop, Nat.add_zero] at h3
  rw [h3, List.getD_eq_getElem?_getD, List.getElem?_eq_getElem (show i < zs.length by omega), h2]; rfl
def laidL : List (String × DataW Unit) := Rows.questionLeastRow.laid
set_option maxRecDepth 100000 in
theorem of_laid {W : World} (h : laidMetH Tryz.prog laidL W) : G W ∧ GT W := by
  rw [MakeChecks.laidMetH_plain _ _ _ (by kernel_rfl)] at h
  obtain ⟨ps, ⟨g0, t0, cs0, f0, p0, q0, hg0, ht0, hv0, hd0, ⟨g1, t1, cs1, f1, p1, q1, hg1, ht1, hv1, hd1, ⟨g2, t2, cs2, f2, p2, q2, hg2, ht2, hv2, hd2, _, _⟩, _⟩, _⟩, _, _⟩ := h
  obtain rfl := Option.some.inj (g1_.symm.trans hg1)
  obtain rfl := Option.some.inj (g2_.symm.trans hg2)
  obtain rfl := Option.some.inj (t1_.symm.trans ht1)
  obtain rfl := Option.some.inj (t2_.symm.trans ht2)
  have d1 := laid_ints (zs := (List.range 64).map fun i => (Lib.deBruijn64tab.getD i 0 : Int)) u1_ u8_ c8_ (by simp) hd1
  have d2 := laid_ints (zs := pw) u2_ und_int ci_ rfl hd2
  have k1 : ∀ i, i < 64 → W.cell? ⟨1, i, none⟩ = some (.int .u8 (Lib.deBruijn64tab.getD i 0)) := fun i hi => by
    have := World.var?_cell hg1 hv1 i
    rw [← Array.getElem?_toList, d1 i hi] at this
    simpa [hi] using this
  have k2 : ∀ i, i < 19 → W.cell? ⟨2, i, none⟩ = some (.int .i64 (pw.getD i 0)) := fun i hi => by
    have := World.var?_cell hg2 hv2 i
    rw [← Array.getElem?_toList, d2 i hi] at this
    exact this
  exact ⟨⟨World.block_lt_of_cell? _ _ (k2 0 (by omega)), k2⟩, ⟨World.block_lt_of_cell? _ _ (k1 0 (by omega)), k1⟩⟩
theorem door_met (os : Os) (args : Array Value) : laidMetH Tryz.prog laidL ((World.doorLaid Tryz.prog 400 os).forCall (fun _ _ => 0) ⟨#[], args, []⟩).memory :=
  laidMetH_of_parts3 (fuel := 8) (laidMet_of_run' 8 (by kernel_rfl) (by kernel_rfl)) (by kernel_rfl) (by kernel_rfl)
section
variable {H : Type} {enc : TypeId × Value → H}
/-- The arguments read again. -/
theorem args_again {W W' : World} (hb : Below W.heap.size W W') : ∀ (ts : List TypeId) (vs : List Value) (ds : List (DataW H)) (p : List MemPlace), (∀ t ∈ ts, Tryz.prog.readableRec t = true ∧ t < Tryz.prog.types.size) →
    DataW.TrodAll enc Tryz.prog W 0 (fun _ => true) true ts vs ds p → (∀ x ∈ p, x.block < W.heap.size) → DataW.TrodAll enc Tryz.prog W' 0 (fun b => decide (b < W.heap.size)) true ts vs ds p := by
  intro ts
  induction ts with
  | nil => intro vs ds p _ h _; obtain ⟨rfl, rfl, rfl⟩ := trodAll_nil h; exact trodAll_mk0
  | cons t ts ih =>
    intro vs ds p hr h hp
    obtain ⟨v, vs', d, ds', p1, p2, rfl, rfl, rfl, h1, h2⟩ := trodAll_cons h
    refine ⟨p1, p2, WideElems.Trod_stays laidOut (hr t (by simp)).1 (hr t (by simp)).2 h1 (fun x hx => hb.same (hp x (by simp [hx]))) (fun x hx => by simpa using hp x (by simp [hx])), ih vs' ds' p2 (fun u hu => hr u (by simp [hu])) h2 (fun x hx => hp x (by simp [hx])), rfl⟩
/-- What is to be shown of a law. -/
theorem law_post {f : Func} {s : ChangeSpec} {W W' : World} {args : Array Value} {ds : List (DataW H)} {before : List MemPlace} (hs : s.vars = [])
    (hW : DataW.Whole enc Tryz.prog f.params.toList s.vars false W args.toList ds [] before) (hfn : s.fn H ds = { results := [.lit (.bool true)], args := ds }) (hres : f.resultTypes = #[4])
    (hr : ∀ t ∈ f.params.toList, Tryz.prog.readableRec t = true ∧ t < Tryz.prog.types.size) (hb : Below W.heap.size W W') : s.post enc Tryz.prog f false true false false W args (.bool true) W' := by
  have hW' := hW
  obtain ⟨p, q, hA, hV, hpq, _, _⟩ := hW
  rw [hs] at hV
  obtain ⟨_, rfl⟩ := trodVars_none hV
  have hlt : ∀ x ∈ p, x.block < W.heap.size := fun x hx => hW'.lt x (by rw [hpq]; simp [hx])
  refine ⟨ds, [], before, [], p, [], hW', ?_, ?_, ?_, hb.frame _, fun h => by cases h⟩
  · rw [List.append_nil, hfn, hres]
    exact trodAll_mk1 (shut_bool (by kernel_rfl) _)
  · rw [List.append_nil, hfn]
    exact args_again hb _ _ _ _ hr hA hlt
  · rw [List.append_nil, hfn, hs]; rfl
end
end Go.Proofs.YtoiemkifgdnhaaaGreatDoor
namespace Go.Proofs.YtoiemkifgdnhaaaGreatDoor
open Go Go.ChangeShapes Go.WideShapes Go.ChangeAt Go.WideMaps Go.WideElems Go.RowKit Go.Deep
section
variable {H : Type} {enc : TypeId × Value → H}
theorem mem_all {P : Program} {e : TypeId} : ∀ {ds : List (DataW H)} {d : DataW H} {n : Nat}, d ∈ ds → n ∈ d.weights P e → n ∈ DataW.weightsAll P e ds
  | x :: ds, d, n, hd, hn => by
    simp only [DataW.weightsAll, List.mem_append]
    rcases List.mem_cons.1 hd with rfl | hd
    · exact .inl hn
    · exact .inr (mem_all hd hn)
  | [], _, _, hd, _ => by simp at hd
theorem b24 : Tryz.prog.bytesOf 26 = 24 := by kernel_rfl
theorem b8 : Tryz.prog.bytesOf 3 = 8 := by kernel_rfl
theorem reach_eq : reachBytes = 140737488351232 := rfl
theorem wf_int {n : Int} (h : (Lit.int .i64 n).wf = true) : -9223372036854775808 ≤ n ∧ n ≤ 9223372036854775807 := by
  simp only [Lit.wf, IntKind.min, IntKind.max, Bool.and_eq_true, decide_eq_true_eq] at h
  simpa [IntKind.signed, IntKind.bits] using h
/-- An argument that is a list of lists of numbers. -/
theorem open_rows {W : World} {v : Value} {d : DataW H} {p : List MemPlace} (h : DataW.Trod enc Tryz.prog W 0 (fun _ => true) true 22 v d p) (hv : ∃ a len cap, v = .slice a len cap)
    (hw : ∀ n ∈ d.weights Tryz.prog 22, n ≤ reachBytes) (hlt : ∀ x ∈ p, x.block < W.heap.size) : ∃ L, IntRows W v L := by
  obtain ⟨a0, len, cap, rfl⟩ := hv
  obtain ⟨fuel, hf⟩ := h
  rcases open_int_rows und_rows und_ints und_int crow_ ci_ hf with ⟨hcs, _⟩ | ⟨a, len', cap', A, L, C, Z, hcs, _, hl, hm, hx, hrows⟩
  · simp [Value.cells] at hcs
    obtain ⟨rfl, rfl, rfl⟩ := hcs
    exact ⟨[], sl_nil _ _ _, by simp⟩
  · simp [Value.cells] at hcs
    obtain ⟨rfl, rfl, rfl⟩ := hcs
    simp only [Prod.mk.injEq] at hx
    obtain ⟨rfl, hp⟩ := hx
    obtain ⟨bm, om, spot⟩ := a
    refine ⟨(List.range len).map fun r => (Z r).take (L r), ⟨?_, ?_⟩⟩
    · rw [List.length_map, List.length_range]
      refine ⟨some ⟨bm, om, spot⟩, cap, rfl, hl, fun hne => ?_⟩
      have hspot : spot = none := by simpa [Addr.add] using World.cell?_spot (hrows 0 (by omega)).1
      subst hspot
      have hbm : bm < W.heap.size := World.block_lt_of_cell? _ _ (hrows 0 (by omega)).1
      refine ⟨bm, om, rfl, hbm, fun r hr => ?_⟩
      obtain ⟨c1, c2, c3, c4, c5, c6, c7⟩ := hrows r (by omega)
      have hg : ((List.range len).map fun r => (Z r).take (L r)).getD r [] = (Z r).take (L r) := by simp [List.getD_eq_getElem?_getD, hr]
      have hlz : ((Z r).take (L r)).length = L r := by rw [List.length_take]; omega
      show ∃ ra rc, W.cell? ⟨bm, om + r * 1, none⟩ = some (.slice ra (((List.range len).map fun r => (Z r).take (L r)).getD r []).length rc) ∧ Ints W (.slice ra (((List.range len).map fun r => (Z r).take (L r)).getD r []).length rc) (((List.range len).map fun r => (Z r).take (L r)).getD r [])
      rw [hg, hlz]
      have hsz : (Z r).length * 8 ≤ reachBytes := by
        cases hA : A r with
        | none => rw [c4, c6 hA]; simp
        | some a' =>
          refine hw _ ?_
          simp only [DataW.weights, und_rows, List.mem_cons, List.mem_append]
          refine .inr (.inl (mem_all (List.mem_map.2 ⟨r, by simpa using hr, rfl⟩) ?_))
          simp only [intRow, hA, DataW.weights, und_ints, b8, List.mem_cons]
          left
          simp only [lits, List.length_map, List.length_take, List.length_drop]
          congr 1; omega
      rw [reach_eq] at hsz
      refine ⟨A r, C r, by rw [Nat.mul_one, ← Addr.add_lit bm om r]; exact c1, ⟨⟨A r, C r, by rw [hlz], by rw [hlz]; exact c2, fun hne => ?_⟩, by rw [hlz]; omega, fun x hx => wf_int (c5 x (List.mem_of_mem_take hx))⟩⟩
      rw [hlz] at hne
      cases hA : A r with
      | none => have := c6 hA; omega
      | some a' =>
        obtain ⟨ba, oa, sa⟩ := a'
        obtain ⟨_, c8⟩ := c7 _ hA
        have hsp : sa = none := by simpa [Addr.add] using World.cell?_spot (c8 0 (by omega))
        subst hsp
        refine ⟨ba, oa, rfl, World.block_lt_of_cell? _ _ (c8 0 (by omega)), fun k hk => ?_⟩
        rw [hlz] at hk
        show W.cell? ⟨ba, oa + k * 1, none⟩ = some (.int .i64 (((Z r).take (L r)).getD k 0))
        rw [Nat.mul_one, ← Addr.add_lit ba oa k, c8 k (by omega)]
        simp [List.getD_eq_getElem?_getD, List.getElem?_take, hk]
    · rw [List.length_map, List.length_range]
      have := hw ((len + (cap - len)) * 24) (by simp only [DataW.weights, und_rows, b24, List.length_map, List.length_range, List.mem_cons, true_or])
      rw [reach_eq] at this; omega
/-- An argument that is a list of numbers. -/
theorem open_nums {W : World} {v : Value} {d : DataW H} {p : List MemPlace} (h : DataW.Trod enc Tryz.prog W 0 (fun _ => true) true 26 v d p) (hv : ∃ a len cap, v = .slice a len cap)
    (hw : ∀ n ∈ d.weights Tryz.prog 26, n ≤ reachBytes) : ∃ l, Ints W v l := by
  obtain ⟨a0, len, cap, rfl⟩ := hv
  obtain ⟨fuel, hf⟩ := h
  rcases open_ints und_ints und_int ci_ hf with ⟨hcs, _⟩ | ⟨a, len', cap', zs, hcs, _, hl, hm, hz, hx, hcell, hwf⟩
  · simp [Value.cells] at hcs
    obtain ⟨rfl, rfl, rfl⟩ := hcs
    exact ⟨[], Ints.nil _⟩
  · simp [Value.cells] at hcs
    obtain ⟨rfl, rfl, rfl⟩ := hcs
    simp only [Prod.mk.injEq] at hx
    obtain ⟨rfl, _⟩ := hx
    simp only [if_true] at hz
    have hlz : (zs.take len).length = len := by rw [List.length_take]; omega
    refine ⟨zs.take len, ⟨⟨some a, cap, by rw [hlz], by rw [hlz]; exact hl, fun hne => ?_⟩, ?_, fun x hx => wf_int (hwf x (List.mem_of_mem_take hx))⟩⟩
    · rw [hlz] at hne
      obtain ⟨ba, oa, sa⟩ := a
      have hsp : sa = none := by simpa [Addr.add] using World.cell?_spot (hcell 0 (by omega))
      subst hsp
      refine ⟨ba, oa, rfl, World.block_lt_of_cell? _ _ (hcell 0 (by omega)), fun k hk => ?_⟩
      rw [hlz] at hk
      show W.cell? ⟨ba, oa + k * 1, none⟩ = some (.int .i64 ((zs.take len).getD k 0))
      rw [Nat.mul_one, ← Addr.add_lit ba oa k, hcell k (by omega)]
      simp [List.getD_eq_getElem?_getD, List.getElem?_take, hk]
    · rw [hlz]
      have := hw (((lits (H := H) .i64 (zs.take len)).length + (lits (H := H) .i64 (zs.drop len)).length) * 8) (by simp only [DataW.weights, und_ints, b8, List.mem_cons, true_or])
      rw [reach_eq] at this
      simp only [lits, List.length_map, List.length_take, List.length_drop] at this
      omega
theorem each_le {P : Program} {ts : List TypeId} {ds : List (DataW H)} (h : (DataW.weightsEach P ts ds).all (· ≤ reachBytes) = true) {j : Nat} {t : TypeId} {d : DataW H} (ht : ts[j]? = some t) (hd : ds[j]? = some d) : ∀ n ∈ d.weights P t, n ≤ reachBytes := fun n hn => by
  have := List.all_eq_true.1 h n (DataW.weights_mem_each ht hd n hn)
  simpa using this
end
end Go.Proofs.YtoiemkifgdnhaaaGreatDoor
