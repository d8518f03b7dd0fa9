/- QuestionKeeps: what the walk needs beside. No conditions.
  QuestionKeeps: the walk. No conditions. -/
import Derived.Test.YtoiemkifgdnhaaaGreatDoorK2
import Derived.Test.YtoiemkifgdnhaaaGreatDoorL14
namespace Go.Proofs.YtoiemkifgdnhaaaGreatDoor
open Go Go.RowKit
/-- A list of numbers is put behind an empty list of the call's own. -/
theorem app_ints {w : World} {ops : Array Oper} {rest : List Oper} {o : Oper} {a : Act} {Q : Exit → Act → World → Prop} (hgd : o.guard = none) (s x : Operand)
    (ho : o.op = .call { callee := .builtin .append, args := #[s, x], argTypes := #[26, 26] }) (base : Nat) (v u : Value) (X : List Int) (hs : a.eval s = v) (hown : w.ownsRow base 3 1 v 0 []) (hx : a.eval x = u) (hX : Ints w u X) (hbase : base ≤ w.heap.size)
    (h : ∀ v' w', w'.ownsRow base 3 1 v' X.length (ci X) → w.grownBy w' v.ownBlock → wpList Tryz.prog ops Q rest (a.put o.dst v') w') : wpList Tryz.prog ops Q (o :: rest) a w := by
  obtain ⟨i0, hi, hz0, hz1, hz2⟩ := info_parts info_int
  obtain ⟨ao, ac, rfl, h1⟩ := hX.1.open
  have h2 := hX.2.1
  cases ao with
  | none =>
    have hX0 : X = [] := by
      cases X with
      | nil => rfl
      | cons y ys =>
        obtain ⟨b, o, hb, _⟩ := hX.1.at (show 0 < (y :: ys).length by simp)
        simp at hb
    subst hX0
    have hr : (Builtin.append_ #[26, 26] o.type #[v, .slice none 0 ac]).run Tryz.prog w = .ok v w := by
      rcases own_cases hown with ⟨rfl, _⟩ | ⟨g, cap, rfl, _, _, hnc, _⟩
      · simp [Builtin.append_, run_underlying und_ints, sizeOf, typeInfo, hi, Builtin.lenOf, Builtin.firstCells]
      · simp [Builtin.append_, run_underlying und_ints, sizeOf, typeInfo, hi, Builtin.lenOf, Builtin.firstCells, hnc, storeCells]
    exact wpList_append_run w hgd s x _ _ ho v _ hs hx hr (h v w (by simpa [ci] using hown) (World.grownBy.refl _ _))
  | some ad =>
    refine wpList_app hgd s x 26 ho base 3 i0 (.int .i64 0) 1 8 und_ints hi hz0 hz1 hz2 rfl (by decide) v 0 [] hs hown ad X.length ac (ci X) hx (by simp [ci]) ?_ (ci_one X) (by unfold maxLen; omega) (by omega) hbase ?_
    · intro j u hu
      have hj : j < X.length := by have := (List.getElem?_eq_some_iff.1 hu).1; simpa [ci] using this
      obtain ⟨b, o, hb, _⟩ := hX.1.at hj
      simp only [Option.some.injEq] at hb
      subst hb
      exact ints_news hX j u hu
    · intro v' w' h3 h4 _
      exact h v' w' (by simpa using h3) h4
/-- A plan of the call's own whose answers may have been overwritten. -/
structure Spoilt (w : World) (B : Nat) (v : Value) (qs : List Ask) (os : List (Nat × Value × Value)) : Prop where
  own : w.ownsRow B 59 3 v qs.length (os.flatMap askC)
  len : os.length = qs.length
  rows : ∀ (i : Nat) (o : Nat × Value × Value) (a : Ask), os[i]? = some o → qs[i]? = some a → ∃ xs, w.ownsRow B 47 7 o.2.1 a.2.1.length xs
theorem AsksAt.spoilt {w : World} {B : Nat} {v : Value} {qs : List Ask} {os : List (Nat × Value × Value)} (h : AsksAt w B v qs os) : Spoilt w B v qs os :=
  ⟨h.own, h.len, fun i o a ho ha => by
    obtain ⟨_, ⟨zs, h2, h3⟩, _⟩ := h.inn i o a ho ha
    exact ⟨_, by rw [← h2, List.length_map]; exact h3⟩⟩
theorem Spoilt.below {w w' : World} {B : Nat} {v : Value} {qs : List Ask} {os : List (Nat × Value × Value)} (h : Spoilt w B v qs os) (hb : Below w.heap.size w w') : Spoilt w' B v qs os :=
  ⟨own_below h.own hb, h.len, fun i o a ho ha => by obtain ⟨xs, h1⟩ := h.rows i o a ho ha; exact ⟨xs, own_below h1 hb⟩⟩
theorem Spoilt.set {w : World} {B g n cap : Nat} {v : Value} {qs : List Ask} {os : List (Nat × Value × Value)} {xs : List Value} (h : Spoilt w B v qs os) (hg : w.ownsRow B 47 7 (.slice (some ⟨g, 0, none⟩) n cap) n xs) (j : Nat) (u : Value) : Spoilt (w.setCell ⟨g, j, none⟩ u) B v qs os ∧ (w.setCell ⟨g, j, none⟩ u).ownsRow B 47 7 (.slice (some ⟨g, 0, none⟩) n cap) n (xs.set j u) := by
  have hst := hg.stored j u
  refine ⟨⟨h.own.kept hst.2 (own_apart h.own hg (by decide)), h.len, fun i o a ho ha => ?_⟩, hst.1⟩
  obtain ⟨ys, h1⟩ := h.rows i o a ho ha
  by_cases e : o.2.1.ownBlock = some g
  · rcases own_cases h1 with ⟨h2, _⟩ | ⟨g', cap', h2, _⟩
    · rw [h2] at e; cases e
    · rw [h2] at e h1 ⊢
      cases e
      exact ⟨_, (h1.stored j u).1⟩
  · exact ⟨ys, h1.kept hst.2 (.inr e)⟩
/-- What stands while the answers are overwritten: the two plans' cells, the plan, the copy, and all that lay there before. -/
structure KInv (B T5 T6 : Nat) (c5 c6 : Array Value) (w4 : World) (qv qv6 : Value) (Q : List Ask) (os os6 : List (Nat × Value × Value)) (wr : World) : Prop where
  p5 : wr.heap[T5]? = some (.cells c5 29)
  p6 : wr.heap[T6]? = some (.cells c6 29)
  sp : Spoilt wr B qv Q os
  cp : AsksAt wr (T5 + 1) qv6 Q os6
  bl : Below B w4 wr
theorem KInv.set {B T5 T6 g n cap : Nat} {c5 c6 : Array Value} {w4 wr : World} {qv qv6 : Value} {Q : List Ask} {os os6 : List (Nat × Value × Value)} {xs : List Value} (h : KInv B T5 T6 c5 c6 w4 qv qv6 Q os os6 wr)
    (hg : wr.ownsRow B 47 7 (.slice (some ⟨g, 0, none⟩) n cap) n xs) (h1 : B ≤ g) (h2 : g < T5) (h56 : T5 < T6) (j : Nat) (u : Value) :
    KInv B T5 T6 c5 c6 w4 qv qv6 Q os os6 (wr.setCell ⟨g, j, none⟩ u) ∧ ∃ ys, (wr.setCell ⟨g, j, none⟩ u).ownsRow B 47 7 (.slice (some ⟨g, 0, none⟩) n cap) n ys := by
  have hs := h.sp.set hg j u
  exact ⟨⟨(heap_setCell_other wr ⟨g, j, none⟩ T5 u (by simp; omega)).trans h.p5, (heap_setCell_other wr ⟨g, j, none⟩ T6 u (by simp; omega)).trans h.p6, hs.1, h.cp.setlow (by omega), h.bl.setCell (by simp; omega) _⟩, _, hs.2⟩
theorem KInv.set7 {B T5 T6 g n cap : Nat} {c5 c6 : Array Value} {w4 wr : World} {qv qv6 : Value} {Q : List Ask} {os os6 : List (Nat × Value × Value)} {xs : List Value} (h : KInv B T5 T6 c5 c6 w4 qv qv6 Q os os6 wr)
    (hg : wr.ownsRow B 47 7 (.slice (some ⟨g, 0, none⟩) n cap) n xs) (h1 : B ≤ g) (h2 : g < T5) (h56 : T5 < T6) (j0 j1 j2 j3 j4 j5 j6 : Nat) (u0 u1 u2 u3 u4 u5 u6 : Value) :
    KInv B T5 T6 c5 c6 w4 qv qv6 Q os os6 (((((((wr.setCell ⟨g, j0, none⟩ u0).setCell ⟨g, j1, none⟩ u1).setCell ⟨g, j2, none⟩ u2).setCell ⟨g, j3, none⟩ u3).setCell ⟨g, j4, none⟩ u4).setCell ⟨g, j5, none⟩ u5).setCell ⟨g, j6, none⟩ u6) := by
  obtain ⟨h, ys, hg⟩ := h.set hg h1 h2 h56 j0 u0
  obtain ⟨h, ys, hg⟩ := h.set hg h1 h2 h56 j1 u1
  obtain ⟨h, ys, hg⟩ := h.set hg h1 h2 h56 j2 u2
  obtain ⟨h, ys, hg⟩ := h.set hg h1 h2 h56 j3 u3
  obtain ⟨h, ys, hg⟩ := h.set hg h1 h2 h56 j4 u4
  obtain ⟨h, ys, hg⟩ := h.set hg h1 h2 h56 j5 u5
  exact (h.set hg h1 h2 h56 j6 u6).1
/-- The answers of question k, as the plan's cells have them. -/
theorem Spoilt.at {w : World} {B k gq cq n : Nat} {qs : List Ask} {os : List (Nat × Value × Value)} {o : Nat × Value × Value} (h : Spoilt w B (.slice (some ⟨gq, 0, none⟩) n cq) qs os) (hn : n = qs.length) (hk : k < qs.length) (ho : os[k]? = some o) :
    w.cell? ⟨gq, k * 3 + 1, none⟩ = some o.2.1 ∧ ∃ xs, w.ownsRow B 47 7 o.2.1 (qs[k].2.1.length) xs := by
  subst hn
  refine ⟨?_, h.rows k o qs[k] ho (List.getElem?_eq_getElem hk)⟩
  rw [h.own.cellAt (k * 3 + 1) (by omega), flat3_get os (by omega), ho]
  rfl
/-- The cells of a row that may be written. -/
theorem own_cells7 {w : World} {B g n cap j : Nat} {xs : List Value} (hg : w.ownsRow B 47 7 (.slice (some ⟨g, 0, none⟩) n cap) n xs) (hj : j < n) (i : Nat) (hi : i < 7) : ∃ u, w.cell? ⟨g, j * 7 + i, none⟩ = some u := by
  have hl := hg.1
  refine ⟨xs[j * 7 + i]'(by omega), ?_⟩
  rw [hg.cellAt (j * 7 + i) (by omega), List.getElem?_eq_getElem]
end Go.Proofs.YtoiemkifgdnhaaaGreatDoor
namespace Go.Proofs.YtoiemkifgdnhaaaGreatDoor
open Go Go.RowKit
theorem planF_next (A : List (List Nat)) (m : Nat) : ∀ f s n, ∀ a ∈ planF A m f s n, a.2.2 ≠ [] := by
  intro f
  induction f with
  | zero => intro s n a ha; simp [planF] at ha
  | succ f ih =>
    intro s n a ha
    by_cases hd : dep A m s = 0
    · rw [planF_zero _ _ _ _ _ hd] at ha; simp at ha
    · rw [planF_succ _ _ _ _ _ hd] at ha
      have h2 := (inp_spec hd).2.2.2
      generalize divS A (inp A m s) s = gs at *
      have key : ∀ j, j ≤ gs.length → ∀ b ∈ (stepF A m f n (gs.take j)).2, b.2.2 ≠ [] := by
        intro j
        induction j with
        | zero => intro _; simp [stepF]
        | succ j ihj =>
          intro hj b hb
          rw [List.take_succ_eq_append_getElem (by omega), stepF_snoc] at hb
          rcases List.mem_append.1 hb with hb | hb
          · exact ihj (by omega) b hb
          · exact ih _ _ b hb
      have hk := key gs.length (Nat.le_refl _)
      rw [List.take_length] at hk
      rcases List.mem_cons.1 ha with rfl | ha
      · intro e
        have hl := stepF_len A m f n gs
        simp only at e
        rw [e] at hl
        simp at hl; omega
      · exact hk a ha
set_option maxRecDepth 100000 in
set_option maxHeartbeats 1000000 in
theorem Keeps_walk (w : World) (v b : Value) (L : List (List Int)) (X : List Int) (hv : IntRows w v L) (hX : Ints w b X) (hG : G w) (hT : GT w) : Calls Tryz.prog 9 #[v, b] w (TruePost w) := by
  have HV := Lib.hid hv; have HG := Lib.hid hG; have HT := Lib.hid hT; have HX := Lib.hid hX
  obtain ⟨ao, ac, rfl, hv1⟩ := hv.1.open
  obtain ⟨xo, xc, rfl, hx1⟩ := hX.1.open
  have hx2 := hX.2.1
  have hv2 := hv.2
  obtain ⟨n, hn⟩ : ∃ n, n = min L.length 7 := ⟨_, rfl⟩
  have hmin : min (L.length : Int) 7 = n := by omega
  have hn0 : (0 : Int) ≤ n := by omega
  have hn1 : (n : Int) ≤ ac := by omega
  have hnl : n ≤ L.length := by omega
  have hn9 : n ≤ 7 := by omega
  have hnt : (L.take n).length = n := by simp; omega
  obtain ⟨hr, hal, hin⟩ := made_right (L.take n)
  rw [hnt] at hal
  obtain ⟨A, hA⟩ : ∃ A, A = madeS (L.take n) := ⟨_, rfl⟩
  rw [← hA] at hr hal hin
  have hA9 : A.length ≤ 7 := by omega
  have HA := Lib.hid hA; have HR := Lib.hid hr
  clear hv hG hT hn hA hr hnt hX
  go_enter Tryz.func9, Tryz.ntmps9
  go_wp2_with (first | (go_at_call 10; refine (sanity_call _ HG.out HT.out).mono ?_; rintro e w1 ⟨rfl, hb1⟩) | (go_at_call 11; refine (Made_call _ _ (L.take n) ((HV.out.take hnl).mono (bthen hb1 hb2))).mono ?_; rintro e w3 ⟨o3, rfl, ho3, hb3⟩) | (go_at_call 11; refine (Made_call _ _ (L.take n) ((HV.out.take hnl).mono hb1)).mono ?_; rintro e w2 ⟨o2, rfl, ho2, hb2⟩) | (at_builtin; refine app_ints rfl (.tmp 27) (.tmp 28) rfl w3.heap.size (.slice (some ⟨w3.heap.size, 0, none⟩) 0 0) (.slice xo X.length xc) X rfl (own_new w3 w3.heap.size 3 1 0 [] (Nat.le_refl _) rfl (by unfold maxLen; omega)) rfl (HX.out.mono ((bthen (bthen hb1 hb2) hb3).alloc (bthen (bthen hb1 hb2) hb3).size _)) (by simp) ?_; intro sv w4 hown4 hgr4))
  rw [← HA.out] at ho2 ho3
  have hva : ValRows w2 o2 A := by have := ho2; rw [HA.out] at this ⊢; exact this.made
  have hvo : ValRows w3 o3 A := by have := ho3; rw [HA.out] at this ⊢; exact this.made
  have hb34 : Below w3.heap.size w3 w4 := (below1 w3 _).grown hgr4 (by simp) (fun g hg => by cases hg; simp)
  have hb24 : Below w2.heap.size w2 w4 := bthen hb3 hb34
  have hb14 := bthen (bthen (bthen hb1 hb2) hb3) hb34
  have HVA := Lib.hid (hva.mono hb24); have HVO := Lib.hid (hvo.mono hb34); have HXX := Lib.hid (HX.out.mono hb14)
  have HSV := Lib.hid (own_ints hown4 (by omega) HX.out.2.2); have HB := Lib.hid hb14
  obtain ⟨oa, oc, rfl, _⟩ := hva.1.open
  obtain ⟨pa_, pc_, rfl, _⟩ := hvo.1.open
  obtain ⟨sa, sc, rfl⟩ := own_slice hown4
  have hok := ok_of HR.out (by omega) hin
  have hdc := dep_card A (inputsS A) 12 (fullS A) (bits_len _)
  rw [full_card (by omega)] at hdc
  have he6 : makeE A 6 = 0 := by rw [makeE_at (make6 HR.out (by omega) hin), if_neg (by omega)]
  have hs6 : makeS A 6 = makeP A := by unfold makeS; rw [if_pos he6]
  have hA500 : A.length ≤ 500 := by omega
  have HE := Lib.hid he6; have HS := Lib.hid hs6
  clear hva hvo hb34 hb24 hb14 hown4 hgr4 hb1 hb2 hb3 ho2 ho3 hok hdc he6 hs6 hin hal hn0 hn1 hmin
  have hg4 := HG.out.mono HB.out
  have ht4 := HT.out.mono HB.out
  have HG4 := Lib.hid hg4; have HT4 := Lib.hid ht4
  clear hg4 ht4
  refine (Make_call _ _ A 6 HVA.out HG4.out HT4.out hA500).mono ?_
  rintro e w5 ⟨p5, rfl, hp5, hb5⟩
  rw [HE.out]
  have hpr := hp5.reads
  rw [HS.out] at hp5 hpr
  obtain ⟨pa, os, rfl, hq⟩ := hp5
  obtain ⟨qa, qc, rfl⟩ := own_slice hq.own
  obtain ⟨pl, hpl⟩ : ∃ pl, pl = (makeP A).asks.length := ⟨_, rfl⟩
  obtain ⟨dp, hdp⟩ : ∃ dp, dp = (makeP A).depth := ⟨_, rfl⟩
  obtain ⟨lo, hlo⟩ : ∃ lo, lo = (makeP A).lower := ⟨_, rfl⟩
  rw [← hpl, ← hdp, ← hlo] at hpr ⊢
  rw [← hpl] at hq
  have HQ := Lib.hid hq; have HPR := Lib.hid hpr; have HB5 := Lib.hid hb5; have HPL := Lib.hid hpl; have HDP := Lib.hid hdp; have HLO := Lib.hid hlo
  clear hq hpr hpl hdp hlo
  go_wp2_with fail
  refine (copyPlan _ _ (makeP A) (HPR.out.mono (below1 _ _)) (planF_next _ _ _ _ _)).mono ?_
  rintro e w6 ⟨p6, rfl, hp6, hb6⟩
  obtain ⟨pa6, os6, rfl, hq6⟩ := hp6
  obtain ⟨qa6, qc6, rfl⟩ := own_slice hq6.own
  rw [← HPL.out] at hq6
  rw [← HDP.out, ← HLO.out, ← HPL.out]
  have hp6w : w6.heap[w5.heap.size]? = some (.cells #[.slice qa pl qc, .int .i64 dp, .int .i64 lo] 29) := (hb6.block w5.heap.size (by simp)).trans (heap_alloc_new w5 _)
  have hb46 := bstep HB5.out hb6
  have hs5 := HB5.out.size
  have hs6 := hb6.size
  rw [show (w5.alloc (.cells #[.slice qa pl qc, .int .i64 dp, .int .i64 lo] 29)).heap.size = w5.heap.size + 1 by simp] at hs6 hq6
  have hl6 : Spoilt w6 w4.heap.size (.slice qa pl qc) (makeP A).asks os := by have := HQ.out.spoilt; exact (this.below (below1 _ _)).below hb6
  have HQ6 := Lib.hid hq6; have HP6 := Lib.hid hp6w; have HB46 := Lib.hid hb46; have HL6 := Lib.hid hl6
  have k0 : w6.cell? ⟨w5.heap.size, 0, none⟩ = some (.slice qa pl qc) := cell_of_row _ _ _ _ _ _ hp6w
  have k1 : w6.cell? ⟨w5.heap.size, 1, none⟩ = some (.int .i64 dp) := cell_of_row _ _ _ _ _ _ hp6w
  have k2 : w6.cell? ⟨w5.heap.size, 2, none⟩ = some (.int .i64 lo) := cell_of_row _ _ _ _ _ _ hp6w
  have hz : w5.heap.size < w6.heap.size := by omega
  have HPR6 := Lib.hid ((HPR.out.mono (below1 _ _)).mono hb6)
  clear hq6 hp6w hb46 hl6 hb6
  go_wp2_with fail
  refine (Check_call _ _ _ A 6 (HVA.out.mono (bstep HB46.out (Below.refl _ _))) (by rw [HS.out]; exact HPR6.out.mono (below1 _ _)) (HG4.out.mono (bstep HB46.out (Below.refl _ _))) hA500 HE.out).mono ?_
  rintro e w7 ⟨rfl, hb7⟩
  go_wp2_with fail
  have hb67 := bstep (o := .cells #[.slice qa6 pl qc6, .int .i64 dp, .int .i64 lo] 29) (Below.refl w6.heap.size w6) hb7
  have hq7 : w7.heap[w6.heap.size]? = some (.cells #[.slice qa6 pl qc6, .int .i64 dp, .int .i64 lo] 29) := (hb7.block w6.heap.size (by simp)).trans (heap_alloc_new w6 _)
  have hs7 : w6.heap.size < w7.heap.size := by have := hb7.size; simp at this; omega
  have hb47 := bthen HB46.out hb67
  refine (Groups_call _ _ _ A X 0 (HVA.out.mono hb47) (HXX.out.mono hb47) (HG4.out.mono hb47) hA500).mono ?_
  rintro e w8 ⟨o8, rfl, _, hb8⟩
  have hb68 := bthen hb67 hb8
  have hp8 : w8.heap[w5.heap.size]? = some (.cells #[.slice qa pl qc, .int .i64 dp, .int .i64 lo] 29) := (hb68.block _ (by omega)).trans HP6.out
  have hq8 : w8.heap[w6.heap.size]? = some (.cells #[.slice qa6 pl qc6, .int .i64 dp, .int .i64 lo] 29) := (hb8.block _ (by omega)).trans hq7
  have hl8 := HL6.out.below hb68
  have hc8 : AsksAt w8 (w5.heap.size + 1) (.slice qa6 pl qc6) (makeP A).asks os6 := HQ6.out.below hb68
  have hb48 := bthen HB46.out hb68
  have k0 : w8.cell? ⟨w5.heap.size, 0, none⟩ = some (.slice qa pl qc) := cell_of_row _ _ _ _ _ _ hp8
  have hlow : ∀ o ∈ os, ∀ g, o.2.1.ownBlock = some g → w4.heap.size ≤ g ∧ g < w5.heap.size := by
    intro o ho g hg
    obtain ⟨i, hi, rfl⟩ := List.mem_iff_getElem.1 ho
    obtain ⟨_, ⟨zs, _, h3⟩, _⟩ := HQ.out.inn i os[i] ((makeP A).asks[i]'(by rw [← HQ.out.len]; exact hi)) (List.getElem?_eq_getElem hi) (List.getElem?_eq_getElem _)
    exact h3.lt g hg
  obtain ⟨Q, hQ⟩ : ∃ Q, Q = (makeP A).asks := ⟨_, rfl⟩
  have hok := make_ok (A := A) (h := 6)
  rw [HS.out, ← hQ] at hok
  rw [← hQ] at hl8 hc8
  have hpq : pl = Q.length := by rw [hQ]; exact HPL.out
  have hpl12 : pl ≤ 12 := by rw [hpq]; exact hok.1
  have HOK := Lib.hid hok.2
  clear hok
  have HQQ := Lib.hid hQ; have HPQ := Lib.hid hpq; have HLOW := Lib.hid hlow
  have HP8 := Lib.hid hp8; have HQ8 := Lib.hid hq8; have HL8 := Lib.hid hl8; have HC8 := Lib.hid hc8; have HB48 := Lib.hid hb48
  have hz8 : w6.heap.size < w8.heap.size := by have := hb8.size; omega
  clear hb7 hb67 hq7 hb47 hb8 hb68 hp8 hq8 hl8 hc8 hb48 hlow hQ hpq k1 k2
  go_wp2_with fail
  go_loopw [12, 13, 46] (fun _ _ i wr => ∃ k : Nat, k ≤ pl ∧ i = .int .i64 k ∧ KInv w4.heap.size w5.heap.size w6.heap.size #[.slice qa pl qc, .int .i64 dp, .int .i64 lo] #[.slice qa6 pl qc6, .int .i64 dp, .int .i64 lo] w4 (.slice qa pl qc) (.slice qa6 pl qc6) Q os os6 wr) (fun _ _ i _ => pl - (intOf i).toNat)
  case atStart => exact ⟨0, by omega, rfl, HP8.out, HQ8.out, HL8.out, HC8.out, HB48.out⟩
  case round =>
    obtain ⟨k, hk, rfl, hi⟩ := hrel
    have HI := Lib.hid hi
    have k0 : wr.cell? ⟨w5.heap.size, 0, none⟩ = some (.slice qa pl qc) := cell_of_row _ _ _ _ _ _ hi.p5
    by_cases hlt : k < pl
    · have q1 : (k:Int) < pl := by omega
      have q0 : 0 ≤ (k:Int) := by omega
      have hkQ : k < Q.length := by have := HPQ.out; omega
      have hq1 := own_shape hi.sp.own (by omega)
      obtain ⟨gq, cq, hq1⟩ := hq1
      simp only [Value.slice.injEq] at hq1
      obtain ⟨rfl, _, rfl⟩ := hq1
      obtain ⟨x, hx⟩ : ∃ x, os[k]? = some x := ⟨_, List.getElem?_eq_getElem (by rw [hi.sp.len]; exact hkQ)⟩
      obtain ⟨hc, xs, hxs⟩ := hi.sp.at HPQ.out hkQ hx
      obtain ⟨m, hm⟩ : ∃ m, m = Q[k].2.1.length := ⟨_, rfl⟩
      have hm12 : m ≤ 1000 := by rw [hm]; have := (HOK.out Q[k] (List.getElem_mem _)).a.1; omega
      rw [← hm] at hxs
      obtain ⟨xa, xcap, hxe⟩ := own_slice hxs
      rw [hxe] at hc
      have HX9 := Lib.hid hx; have HXE := Lib.hid hxe; have HM := Lib.hid hm
      clear hi hx hxe hxs hm
      go_wp2
      go_loopw [13, 56] (fun _ i wz => ∃ j : Nat, j ≤ m ∧ i = .int .i64 j ∧ KInv w4.heap.size w5.heap.size w6.heap.size #[.slice (some ⟨gq, 0, none⟩) pl qc, .int .i64 dp, .int .i64 lo] #[.slice qa6 pl qc6, .int .i64 dp, .int .i64 lo] w4 (.slice (some ⟨gq, 0, none⟩) pl qc) (.slice qa6 pl qc6) Q os os6 wz) (fun _ i _ => m - (intOf i).toNat)
      case atStart => exact ⟨0, by omega, rfl, HI.out⟩
      case round =>
        obtain ⟨j, hj, rfl, hi⟩ := hrel
        have HI2 := Lib.hid hi
        have k0 : wr.cell? ⟨w5.heap.size, 0, none⟩ = some (.slice (some ⟨gq, 0, none⟩) pl qc) := cell_of_row _ _ _ _ _ _ hi.p5
        by_cases hlj : j < m
        · have q2 : (j:Int) < m := by omega
          have q3 : 0 ≤ (j:Int) := by omega
          obtain ⟨hc, xs, hxs⟩ := hi.sp.at HPQ.out hkQ HX9.out
          rw [← HM.out] at hxs
          rw [HXE.out] at hc hxs
          obtain ⟨g, cg, hxg⟩ := own_shape hxs (by omega)
          simp only [Value.slice.injEq] at hxg
          obtain ⟨rfl, _, rfl⟩ := hxg
          have hlo := HLOW.out x (List.mem_of_getElem? HX9.out) g (by rw [HXE.out]; rfl)
          have hf := fun o => hxs.frozenAt o
          obtain ⟨u0, e0⟩ := own_cells7 hxs hlj 0 (by omega)
          obtain ⟨u1, e1⟩ := own_cells7 hxs hlj 1 (by omega)
          obtain ⟨u2, e2⟩ := own_cells7 hxs hlj 2 (by omega)
          obtain ⟨u3, e3⟩ := own_cells7 hxs hlj 3 (by omega)
          obtain ⟨u4, e4⟩ := own_cells7 hxs hlj 4 (by omega)
          obtain ⟨u5, e5⟩ := own_cells7 hxs hlj 5 (by omega)
          obtain ⟨u6, e6⟩ := own_cells7 hxs hlj 6 (by omega)
          rw [Nat.add_zero] at e0
          have hgz : g < wr.heap.size := (hxs.lt g rfl).2
          have HXS := Lib.hid hxs; have HLO2 := Lib.hid hlo
          clear hi hxs hlo
          go_wp2
          exact ⟨⟨j + 1, by omega, by go_num, HI2.out.set7 HXS.out HLO2.out.1 HLO2.out.2 hz _ _ _ _ _ _ _ _ _ _ _ _ _ _⟩, by simp [intOf]; omega⟩
        · obtain rfl : j = m := by omega
          clear hi
          go_wp2
          exact ⟨⟨k + 1, by omega, by go_num, HI2.out⟩, by simp [intOf]; omega⟩
    · obtain rfl : k = pl := by omega
      have q1 : ¬ ((k:Int) < k) := by omega
      have hb := HI.out.bl
      have HBR := Lib.hid hb
      clear hi hb
      go_wp2_with fail
      refine (Make_call _ _ A 6 (HVA.out.mono HBR.out) (HG4.out.mono HBR.out) (HT4.out.mono HBR.out) hA500).mono ?_
      rintro e w9 ⟨p9, rfl, hp9, hb9⟩
      rw [HE.out]
      have hpr9 := hp9.reads
      rw [HS.out] at hp9 hpr9
      obtain ⟨pa9, os9, rfl, hq9⟩ := hp9
      obtain ⟨qa9, qc9, rfl⟩ := own_slice hq9.own
      rw [← HPL.out, ← HDP.out, ← HLO.out] at hpr9 ⊢
      have hp6 := (hb9.block w6.heap.size (Array.getElem?_eq_some_iff.1 HI.out.p6).1).trans HI.out.p6
      have hb49 := bthen HBR.out hb9
      have hc9 := HI.out.cp.below hb9
      rw [HQQ.out] at hc9
      have hcr := hc9.rows (by have := (make_ok (A := A) (h := 6)).1; rw [HS.out] at this; omega) (by have := (make_ok (A := A) (h := 6)).2; rw [HS.out] at this; exact this)
      have hz69 : w6.heap.size < w9.heap.size := (Array.getElem?_eq_some_iff.1 hp6).1
      have HPR9 := Lib.hid hpr9; have HB49 := Lib.hid hb49; have HCR := Lib.hid hcr; have HP6 := Lib.hid hp6
      clear hq9 hpr9 hb49 hc9 hcr hp6 hb9
      go_wp2_with fail
      obtain ⟨W9, hW9⟩ : ∃ W9, W9 = w9.alloc (.cells #[.slice qa9 k qc9, .int .i64 dp, .int .i64 lo] 29) := ⟨_, rfl⟩
      have hbW : Below w9.heap.size w9 W9 := by rw [hW9]; exact below1 _ _
      have hp9 : W9.heap[w9.heap.size]? = some (.cells #[.slice qa9 k qc9, .int .i64 dp, .int .i64 lo] 29) := by rw [hW9]; exact heap_alloc_new w9 _
      have hp69 := (hbW.block w6.heap.size hz69).trans HP6.out
      have hb49 := bthen HB49.out hbW
      have hz9 : w9.heap.size < W9.heap.size := by rw [hW9]; simp
      have HP9 := Lib.hid hp9; have HP69 := Lib.hid hp69; have HB49W := Lib.hid hb49
      have HPR9W := Lib.hid (HPR9.out.mono hbW); have HCRW := Lib.hid (HCR.out.mono hbW)
      rw [← hW9]
      clear hW9 hbW hp9 hp69 hb49
      go_loopw [16, 77] (fun _ i wr => ∃ j : Nat, j ≤ A.length ∧ i = .int .i64 j ∧ Below W9.heap.size W9 wr) (fun _ i _ => A.length - (intOf i).toNat)
      case atStart => exact ⟨0, by omega, rfl, Below.refl _ _⟩
      case round =>
        obtain ⟨j, hj, rfl, hbz⟩ := hrel
        have HBZ := Lib.hid hbz
        by_cases hlj : j < A.length
        · have q2 : (j:Int) < A.length := by omega
          have q3 : 0 ≤ (j:Int) := by omega
          have hbr := bthen HB49W.out hbz
          obtain ⟨b1, o1, rfl, g1, ra, rc, p0, p1⟩ := (HVA.out.mono hbr).1.at hlj
          obtain ⟨b2, o2, rfl, g2, ra2, rc2, r0, r1⟩ := (HVO.out.mono hbr).1.at hlj
          simp only [Nat.mul_one] at p0 r0
          obtain ⟨u, hu⟩ : ∃ u, u = A.getD j [] := ⟨_, rfl⟩
          rw [← hu] at p0 p1 r0 r1
          have P1 := Lib.hid p1; have R1 := Lib.hid r1
          clear hbz hbr p1 r1 hu
          go_wp2
          go_region_held3 (fun w' => ∀ b o, b < wr.heap.size → w'.cell? ⟨b, o, none⟩ = wr.cell? ⟨b, o, none⟩) (first | exact olds (Below.refl _ _) | exact olds ((Below.refl _ _).drew) | exact olds ‹Below wr.heap.size wr _›)  (first | (go_at_call 32; refine (same06 _ _ _ _ _ (P1.out.mono (Below.refl _ _).drew) (R1.out.mono (Below.refl _ _).drew)).mono ?_; rintro e w1 ⟨rfl, hbw0⟩; have hbw := bdrew hbw0; simp only [beq_self_eq_true]))
          go_wp2
          exact ⟨⟨j + 1, by omega, by go_num, bthen HBZ.out hbw⟩, by simp [intOf]; omega⟩
        · obtain rfl : j = A.length := by omega
          clear hbz
          have hp9 := (HBZ.out.block w9.heap.size hz9).trans HP9.out
          have hp6 := (HBZ.out.block w6.heap.size (by omega)).trans HP69.out
          have hbr := bthen HB49W.out HBZ.out
          have i0 : wr.cell? ⟨w9.heap.size, 0, none⟩ = some (.slice qa9 k qc9) := cell_of_row _ _ _ _ _ _ hp9
          have i1 : wr.cell? ⟨w9.heap.size, 1, none⟩ = some (.int .i64 dp) := cell_of_row _ _ _ _ _ _ hp9
          have i2 : wr.cell? ⟨w9.heap.size, 2, none⟩ = some (.int .i64 lo) := cell_of_row _ _ _ _ _ _ hp9
          have j0 : wr.cell? ⟨w6.heap.size, 0, none⟩ = some (.slice qa6 k qc6) := cell_of_row _ _ _ _ _ _ hp6
          have j1 : wr.cell? ⟨w6.heap.size, 1, none⟩ = some (.int .i64 dp) := cell_of_row _ _ _ _ _ _ hp6
          have j2 : wr.cell? ⟨w6.heap.size, 2, none⟩ = some (.int .i64 lo) := cell_of_row _ _ _ _ _ _ hp6
          have hzr := HBZ.out.size
          have z9 : w9.heap.size < wr.heap.size := by omega
          have z6 : w6.heap.size < wr.heap.size := by omega
          have HBR2 := Lib.hid hbr
          clear hp9 hp6 hbr
          go_wp2_with fail
          refine (ints13 _ _ _ X X (HXX.out.mono HBR2.out) (HSV.out.mono HBR2.out)).mono ?_
          rintro e w1 ⟨rfl, hb1⟩
          simp only [beq_self_eq_true]
          have i0 := (olds hb1 _ _ z9).trans i0
          have i1 := (olds hb1 _ _ z9).trans i1
          have i2 := (olds hb1 _ _ z9).trans i2
          have j0 := (olds hb1 _ _ z6).trans j0
          have j1 := (olds hb1 _ _ z6).trans j1
          have j2 := (olds hb1 _ _ z6).trans j2
          have z9 := Nat.lt_of_lt_of_le z9 hb1.size
          have z6 := Nat.lt_of_lt_of_le z6 hb1.size
          go_wp2_with fail
          refine (same25_call _ _ _ (planI (makeP A)) ((HPR9W.out.mono HBZ.out).mono hb1) ⟨_, by rw [HDP.out, HLO.out]; rfl, (HCRW.out.mono HBZ.out).mono hb1⟩).mono ?_
          rintro e w2 ⟨rfl, hb2⟩
          go_wp2
          go_ret
          exact ⟨rfl, bthen (bthen (bthen HB.out HBR2.out) hb1) hb2⟩
end Go.Proofs.YtoiemkifgdnhaaaGreatDoor
