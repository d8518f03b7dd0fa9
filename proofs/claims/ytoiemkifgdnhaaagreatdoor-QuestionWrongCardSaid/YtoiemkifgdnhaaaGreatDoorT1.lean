/- Whoever follows a plan: the plain law. No program in sight.
  All programs' numbers; whether programs are alike, by the reference. Conditions: each value is one of the eleven.
  QuestionTells: the walk. No conditions. -/
import Derived.Test.YtoiemkifgdnhaaaGreatDoorL14
namespace Go.Proofs.YtoiemkifgdnhaaaGreatDoor
open Go Go.RowKit
theorem goS_snoc (qs : List AskI) (x : Nat) : ∀ (xs : List Nat) (a b : Int), goS qs a xs = (b, true) → goS qs a (xs ++ [x]) = if b < 0 then (-1, false) else match stepS qs b x with | none => (-1, false) | some n => (n, true)
  | [], a, b, h => by
    simp only [goS, Prod.mk.injEq, and_true] at h
    subst h
    simp only [List.nil_append, goS]
    split
    · rfl
    · cases stepS qs a x <;> rfl
  | y :: xs, a, b, h => by
    rw [goS] at h
    rw [List.cons_append, goS]
    split at h
    · simp at h
    · rename_i h1
      rw [if_neg h1]
      cases hs : stepS qs a y with
      | none => rw [hs] at h; simp at h
      | some n => rw [hs] at h; exact goS_snoc qs x xs n b h
theorem divS_of {A : List (List Nat)} {k s : Nat} {g : Nat × Nat} (hg : g ∈ divS A k s) : g.2 = mask (pInts (sel A k (bitsOf s) g.1)) := by
  rw [divS_eq] at hg
  obtain ⟨v, _, hv⟩ := List.mem_map.1 hg
  rw [← hv]
/-- Where a question's answer leads. -/
theorem step_plan {A : List (List Nat)} {m f s n p : Nat} {qs : List Ask} (hd : dep A m s ≠ 0) (hs : s < 2 ^ A.length) (hp : Placed A m (f + 1) s n qs) (hc : (bitsOf s).length ≤ f + 1) (hm : p ∈ bitsOf s) :
    ∃ N, stepS (qs.map askI) n (gval A (inp A m s) p) = some (if dep A m (mask (pInts (sel A (inp A m s) (bitsOf s) (gval A (inp A m s) p)))) = 0 then -1 else ((N : Nat) : Int)) ∧
      Placed A m f (mask (pInts (sel A (inp A m s) (bitsOf s) (gval A (inp A m s) p)))) N qs := by
  obtain ⟨hn, hfi⟩ := hp.first hd
  obtain ⟨_, _, _, h2⟩ := inp_spec hd
  have L := gfold_law A (inp A m s) (bitsOf s)
  have hx : gval A (inp A m s) p ∈ (gfold A (inp A m s) (bitsOf s)).1 := (L.vals _).2 ⟨p, hm, rfl⟩
  obtain ⟨i, hi, hxi⟩ := mem_getD.1 hx
  have hsort := L.sorted
  obtain ⟨x, hxe⟩ : ∃ x, x = gval A (inp A m s) p := ⟨_, rfl⟩
  rw [← hxe] at hx hxi ⊢
  have hfst := divS_fst A (inp A m s) s
  rw [hfst] at hi hxi hsort
  rw [List.length_map] at hi
  have hgi : (divS A (inp A m s) s)[i].2 = mask (pInts (sel A (inp A m s) (bitsOf s) x)) := by
    have h1 : (divS A (inp A m s) s)[i].1 = x := by
      rw [List.getD_eq_getElem?_getD, List.getElem?_map, List.getElem?_eq_getElem hi] at hxi; simpa using hxi
    rw [divS_of (List.getElem_mem hi), h1]
  have hg := hp.group hd hi
  rw [hgi] at hg
  obtain ⟨hat, _⟩ := stepF_at A m f n (divS A (inp A m s) s) hi
  rw [hgi] at hat
  refine ⟨_, ?_, hg⟩
  have hfa : firstAt (fun y => x == y) ((divS A (inp A m s) s).map (·.1)) = i := by
    refine firstAt_hit (fun j hj => ?_) (by simpa using hi) (by rw [hxi]; simp)
    have := sorted_lt hsort hj (by simpa using hi)
    rw [hxi] at this
    rw [beq_eq_false_iff_ne]; omega
  unfold stepS
  rw [Int.toNat_natCast, hfi]
  simp only [askI]
  simp only [hfa]
  rw [stepF_len, if_neg (by omega)]
  simp only [Int.toNat_natCast, hat]
  split
  · rename_i h; exact if_neg (by simp)
  · rename_i hz
    have hcard : (bitsOf (mask (pInts (sel A (inp A m s) (bitsOf s) x)))).length < (bitsOf s).length := by
      rw [← hgi]; exact card_lt (List.getElem_mem _) h2
    have hdc := dep_card A m 12 (mask (pInts (sel A (inp A m s) (bitsOf s) x))) (bits_len _)
    obtain ⟨f', rfl⟩ : ∃ f', f = f' + 1 := ⟨f - 1, by omega⟩
    have hlt := (hg.first hz).1
    exact if_neg (by rw [List.length_map]; omega)
/-- Whoever has had these replies. -/
structure Tell (A : List (List Nat)) (m : Nat) (qs : List Ask) (p : Nat) (xs : List Nat) (s : Nat) (at_ : Int) : Prop where
  fol : followS (qs.map askI) xs = (at_, true)
  mem : p ∈ bitsOf s
  lt : s < 2 ^ A.length
  len : xs.length + dep A m s ≤ dep A m (fullS A)
  pos : (dep A m s = 0 ∧ at_ = -1) ∨ (∃ f n : Nat, dep A m s ≠ 0 ∧ at_ = n ∧ Placed A m (f + 1) s n qs ∧ (bitsOf s).length ≤ f + 1)
theorem Tell.start {A : List (List Nat)} {m p : Nat} (h12 : A.length ≤ 12) (hp : p < A.length) : ∃ a, Tell A m (planF A m 13 (fullS A) 0) p [] (fullS A) a := by
  have hb : bitsOf (fullS A) = List.range A.length := bits_full h12
  by_cases hd : dep A m (fullS A) = 0
  · refine ⟨-1, ?_, by rw [hb]; simpa using hp, (full_val h12).2, by simp, .inl ⟨hd, rfl⟩⟩
    rw [planF_zero _ _ _ _ _ hd]; rfl
  · refine ⟨0, ?_, by rw [hb]; simpa using hp, (full_val h12).2, by simp, .inr ⟨12, 0, hd, rfl, ⟨[], [], by simp, rfl⟩, by have := bits_len (fullS A); omega⟩⟩
    rw [planF_succ _ _ _ _ _ hd]; rfl
theorem Tell.step {A : List (List Nat)} {m p s : Nat} {qs : List Ask} {xs : List Nat} {a : Int} (h : Tell A m qs p xs s a) (hd : dep A m s ≠ 0) :
    ∃ b, Tell A m qs p (xs ++ [gval A (inp A m s) p]) (mask (pInts (sel A (inp A m s) (bitsOf s) (gval A (inp A m s) p)))) b := by
  rcases h.pos with ⟨h0, _⟩ | ⟨f, n, _, rfl, hp, hc⟩
  · exact absurd h0 hd
  · obtain ⟨N, h1, h2⟩ := step_plan hd h.lt hp hc h.mem
    obtain ⟨_, _, _, hg2⟩ := inp_spec hd
    have L := gfold_law A (inp A m s) (bitsOf s)
    have hgm : (gval A (inp A m s) p, mask (pInts (sel A (inp A m s) (bitsOf s) (gval A (inp A m s) p)))) ∈ divS A (inp A m s) s := by
      rw [divS_eq]; exact List.mem_map.2 ⟨_, (L.vals _).2 ⟨p, h.mem, rfl⟩, rfl⟩
    have hcard := card_lt hgm hg2
    have hmx := (foldl_max_ge (gs := divS A (inp A m s) s) (d := dep A m) 0).2 _ hgm
    have hd1 := dep_one hd
    have hbits : bitsOf (mask (pInts (sel A (inp A m s) (bitsOf s) (gval A (inp A m s) p)))) = sel A (inp A m s) (bitsOf s) (gval A (inp A m s) p) := by unfold sel; rw [bits_mask]
    have hfol : followS (qs.map askI) (xs ++ [gval A (inp A m s) p]) = (if dep A m (mask (pInts (sel A (inp A m s) (bitsOf s) (gval A (inp A m s) p)))) = 0 then -1 else (N : Int), true) := by
      have hf := h.fol
      unfold followS at hf ⊢
      rw [goS_snoc _ _ _ _ _ hf, if_neg (by omega), h1]
    refine ⟨_, hfol, ?_, set_lt h.lt hgm, ?_, ?_⟩
    · rw [hbits]; exact List.mem_filter.2 ⟨h.mem, by simp⟩
    · have := h.len; simp only [List.length_append, List.length_singleton] at this ⊢; simp only at hmx; omega
    · by_cases hz : dep A m (mask (pInts (sel A (inp A m s) (bitsOf s) (gval A (inp A m s) p)))) = 0
      · left; exact ⟨hz, by rw [if_pos hz]⟩
      · right
        have hdc := dep_card A m 12 _ (bits_len (mask (pInts (sel A (inp A m s) (bitsOf s) (gval A (inp A m s) p)))))
        simp only at hcard
        obtain ⟨f', rfl⟩ : ∃ f', f = f' + 1 := ⟨f - 1, by omega⟩
        exact ⟨f', N, hz, by rw [if_neg hz], h2, by omega⟩
/-- What is asked is useful. -/
theorem inp_useful {A : List (List Nat)} {s : Nat} (hr : rightS A = true) (hs : s < 2 ^ A.length) (hd : dep A (inputsS A) s ≠ 0) : inp A (inputsS A) s ∈ usefulS A (inputsS A) := by
  obtain ⟨hi, _, _, h2⟩ := inp_spec hd
  refine List.mem_filter.2 ⟨by simpa using hi, ?_⟩
  rw [groups_all hr hi, gfold_len2]
  have L := gfold_law A (inp A (inputsS A) s) (bitsOf s)
  have h3 : (gfold A (inp A (inputsS A) s) (bitsOf s)).1.length ≤ (gfold A (inp A (inputsS A) s) (List.range A.length)).1.length :=
    nodup_sub (nodup_of_sorted L.sorted) fun v hv => by
      obtain ⟨p, hp, e⟩ := (L.vals v).1 hv
      exact ((gfold_law A _ (List.range A.length)).vals v).2 ⟨p, by simpa using bits_lt_pow hs hp, e⟩
  rw [divS_fst, List.length_map] at h3
  simp; omega
end Go.Proofs.YtoiemkifgdnhaaaGreatDoor
namespace Go.Proofs.YtoiemkifgdnhaaaGreatDoor
open Go Go.RowKit
set_option maxHeartbeats 400000 in
theorem All_call (n : Nat) (w : World) (hn : n ≤ 1000) : Calls Tryz.prog 28 #[.int .i64 n] w (OwnB w.heap.size (upTo n) w) := by
  obtain ⟨i0, hi, hz0, hz1, hz2⟩ := info_parts info_int
  have Hi := Lib.hid hi; have Hz0 := Lib.hid hz0; have Hz1 := Lib.hid hz1; have Hz2 := Lib.hid hz2
  clear hi hz0 hz1 hz2
  go_enter Tryz.func28, Tryz.ntmps28
  go_wp2
  go_loopw [3, 4] (fun o i wr => ∃ k : Nat, k ≤ n ∧ i = .int .i64 k ∧ wr.ownsRow w.heap.size 3 1 o k (ci (upTo k)) ∧ Below w.heap.size w wr) (fun _ i _ => n - (intOf i).toNat)
  case atStart => exact ⟨0, by omega, rfl, World.ownsRow_nil _ _ _ _, Below.refl _ _⟩
  case round =>
    obtain ⟨k, hk, rfl, ho, hbel⟩ := hrel
    have HO := Lib.hid ho; have HBL := Lib.hid hbel
    clear ho hbel
    by_cases hlt : k < n
    · have h1 : (k:Int) < n := by omega
      have h0 : 0 ≤ (k:Int) := by omega
      go_wp2_with (at_builtin; refine wpList_app rfl (.tmp 10) (.tmp 12) 26 rfl w.heap.size 3 i0 (.int .i64 0) 1 8 und_ints Hi.out Hz0.out Hz1.out Hz2.out rfl (by decide) _ _ _ rfl (HO.out.alloc _) ⟨wr.heap.size, 0, none⟩ 1 1 [.int .i64 k] rfl rfl (cell_one_new _ _ _) (by intro q hq; simp at hq; subst hq; rfl) (by unfold maxLen; omega) (by omega) (by have := HBL.out.size; simp; omega) ?_; intro v' w9 hown hgr hfr)
      refine ⟨⟨k + 1, by omega, by go_num, ?_, (HBL.out.alloc HBL.out.size _).grown hgr (by have := HBL.out.size; simp; omega) (fun g hg => (HO.out.lt g hg).1)⟩, by simp [intOf]; omega⟩
      have e : upTo (k + 1) = upTo k ++ [(k : Int)] := by simp [upTo, List.range_succ]
      rw [e]; simpa [ci] using hown
    · obtain rfl : k = n := by omega
      go_wp2
      go_ret
      exact ⟨_, rfl, by rw [upTo_len]; exact HO.out, HBL.out⟩
/-- Alike by the reference, where they are. -/
theorem alike_at {A : List (List Nat)} {l : List Nat} (h : alikeS A l = true) {k : Nat} (hk : k < l.length) : A.getD (l.getD k 0) [] = A.getD (l.getD 0 0) [] := by
  unfold alikeS at h
  rw [List.all_eq_true] at h
  have := h l[k] (List.getElem_mem _)
  have e : l.getD k 0 = l[k] := by simp [List.getD_eq_getElem?_getD, hk]
  rw [e]; simpa using this
set_option maxHeartbeats 400000 in
theorem Alike_true (w : World) (a b : Value) (A : List (List Nat)) (l : List Nat) (ha : ValRows w a A) (hb : Ints w b (pInts l)) (hl : ∀ p ∈ l, p < A.length) (hal : alikeS A l = true) : Calls Tryz.prog 30 #[a, b] w
    fun e w' => e = .returned (.bool true) ∧ Below w.heap.size w w' := by
  have HA := Lib.hid ha; have HB := Lib.hid hb; have HLT := Lib.hid hl; have HAL := Lib.hid hal
  obtain ⟨ao, ac, rfl, ha1⟩ := ha.1.open
  obtain ⟨bo, bc, rfl, hb1⟩ := hb.1.open
  have ha2 := ha.2; have hb2 := hb.2.1
  rw [pInts_len] at *
  clear ha hb hl hal
  go_enter Tryz.func30, Tryz.ntmps30
  go_wp2
  go_loopw [5, 6] (fun i u wr => ∃ k : Nat, 1 ≤ k ∧ k ≤ max 1 l.length ∧ i = .int .i64 k ∧ Below w.heap.size w wr) (fun i _ _ => max 1 l.length - (intOf i).toNat)
  case atStart => exact ⟨1, by omega, by omega, rfl, Below.refl _ _⟩
  case round =>
    obtain ⟨k, hk1, hk, rfl, hbel⟩ := hrel
    have HBL := Lib.hid hbel
    by_cases hlt : k < l.length
    · have h1 : (k:Int) < l.length := by omega
      have h3 : (0:Int) < l.length := by omega
      have h5 : 0 < l.length := by omega
      have h0 : 0 ≤ (k:Int) := by omega
      have va := HA.out.mono hbel
      have vb := HB.out.mono hbel
      obtain ⟨b1, o1, rfl, g1, p0⟩ := vb.1.at (show k < (pInts l).length by rw [pInts_len]; exact hlt)
      obtain ⟨b2, o2, hbo, g2, q0⟩ := vb.1.at (show 0 < (pInts l).length by rw [pInts_len]; omega)
      simp only [Option.some.injEq, Addr.mk.injEq, and_true] at hbo
      obtain ⟨rfl, rfl⟩ := hbo
      rw [pInts_getD hlt] at p0
      rw [pInts_getD (show 0 < l.length by omega)] at q0
      have hp1 : l.getD k 0 < A.length := HLT.out _ (by rw [List.getD_eq_getElem?_getD, List.getElem?_eq_getElem hlt]; exact List.getElem_mem _)
      have hp2 : l.getD 0 0 < A.length := HLT.out _ (by rw [List.getD_eq_getElem?_getD, List.getElem?_eq_getElem (show 0 < l.length by omega)]; exact List.getElem_mem _)
      have heq := alike_at HAL.out hlt
      simp only [Nat.mul_one, Nat.zero_mul, Nat.add_zero] at p0 q0
      generalize hgx : l.getD k 0 = x at *
      generalize hgy : l.getD 0 0 = y at *
      obtain ⟨b3, o3, rfl, g3, ra, rc, r0, r1⟩ := va.1.at hp1
      obtain ⟨b4, o4, hbo, g4, sa, sc, s0, s1⟩ := va.1.at hp2
      simp only [Option.some.injEq, Addr.mk.injEq, and_true] at hbo
      obtain ⟨rfl, rfl⟩ := hbo
      rw [heq] at r0 r1
      simp only [Nat.mul_one] at r0 s0
      have e1 : (x : Int) < A.length := by omega
      have e2 : (y : Int) < A.length := by omega
      have e3 : 0 ≤ (x : Int) := by omega
      have e4 : 0 ≤ (y : Int) := by omega
      clear heq
      generalize hgu : A.getD y [] = u at *
      have HR1 := Lib.hid r1; have HS1 := Lib.hid s1
      clear va vb hbel hgx hgy r1 s1 hgu
      go_wp2
      go_region_held3 (fun w' => ∀ b o, b < wr.heap.size → w'.cell? ⟨b, o, none⟩ = wr.cell? ⟨b, o, none⟩) (first | exact olds (Below.refl _ _) | exact olds ((Below.refl _ _).drew) | exact olds ‹Below wr.heap.size wr _›)  (first | (go_at_call 32; refine (same06 _ _ _ _ _ (HS1.out.mono (Below.refl _ _).drew) (HR1.out.mono (Below.refl _ _).drew)).mono ?_; rintro e w1 ⟨rfl, hbw0⟩; have hbw := bdrew hbw0; simp only [beq_self_eq_true]))
      go_wp2
      refine ⟨⟨k + 1, by omega, by omega, by go_num, bthen HBL.out hbw⟩, by simp [intOf]; omega⟩
    · have h1 : ¬ (k:Int) < l.length := by omega
      clear hbel
      go_wp2
      go_ret
      exact ⟨rfl, HBL.out⟩
end Go.Proofs.YtoiemkifgdnhaaaGreatDoor
namespace Go.Proofs.YtoiemkifgdnhaaaGreatDoor
open Go Go.RowKit
theorem OwnRows.row {w : World} {B k : Nat} {v : Value} {zss : List (List ZV)} (h : OwnRows w B v zss) (hk : k < zss.length) : ∃ g cap u, v = .slice (some ⟨g, 0, none⟩) zss.length cap ∧ g < w.heap.size ∧ w.cell? ⟨g, k, none⟩ = some u ∧ w.ownsRow B 47 7 u zss[k].length (cvs zss[k]) := by
  obtain ⟨us, h1, h2, h3, _⟩ := h
  obtain ⟨g, cap, rfl⟩ := own_shape h1 (by omega)
  refine ⟨g, cap, us[k], rfl, (h1.lt g rfl).2, by rw [h1.cellAt k (by omega)]; simp [h2, hk], h3 k _ _ (by simp [h2, hk]) (by simp [hk])⟩
def lenOf : Value → Nat
  | .slice _ n _ => n
  | _ => 0
set_option maxRecDepth 100000 in
set_option maxHeartbeats 1000000 in
theorem Tells_walk (w : World) (v : Value) (x : Nat) (hx : x ≤ 255) (L : List (List Int)) (hv : IntRows w v L) (hG : G w) (hT : GT w) : Calls Tryz.prog 7 #[v, .int .u8 x] w (TruePost w) := by
  have HV := Lib.hid hv; have HG := Lib.hid hG; have HT := Lib.hid hT
  obtain ⟨ao, ac, rfl, hv1⟩ := hv.1.open
  obtain ⟨hr, hal, hin⟩ := made_right L
  obtain ⟨A, hA⟩ : ∃ A, A = madeS L := ⟨_, rfl⟩
  rw [← hA] at hr hal hin
  have hA12 : A.length ≤ 12 := by omega
  have HA := Lib.hid hA; have HR := Lib.hid hr
  clear hv hG hT hA hr hal
  go_enter Tryz.func7, Tryz.ntmps7
  go_wp2_with (first | (go_at_call 10; refine (sanity_call _ HG.out HT.out).mono ?_; rintro e w1 ⟨rfl, hb1⟩) | (go_at_call 11; refine (Made_call _ _ L (HV.out.mono hb1)).mono ?_; rintro e w2 ⟨o2, rfl, ho2, hb2⟩))
  rw [← HA.out] at ho2
  have hva : ValRows w2 o2 A := by have := ho2; rw [HA.out] at this ⊢; exact this.made
  obtain ⟨oa, oc, rfl, _⟩ := hva.1.open
  have hb12 := bthen hb1 hb2
  have hok := ok_of HR.out hA12 hin
  have HVA := Lib.hid hva; have HB := Lib.hid hb12; have HOK := Lib.hid hok; have HO2 := Lib.hid ho2
  have he6 := makeE_at (make6 HR.out hA12 hin)
  obtain ⟨d, hd⟩ : ∃ d, d = dep A (inputsS A) (fullS A) := ⟨_, rfl⟩
  rw [← hd] at he6
  have HD := Lib.hid hd; have HE6 := Lib.hid he6
  clear hva hb12 hok hd he6 ho2 hb1 hb2
  by_cases hd6 : 6 < d
  · have he : makeE A 6 = 16 := by rw [HE6.out, if_pos (by omega)]
    have HE := Lib.hid he
    clear he
    refine (Make_call _ _ A 6 HVA.out (HG.out.mono HB.out) (HT.out.mono HB.out) (by omega)).mono ?_
    rintro e w3 ⟨p3, rfl, hp3, hb3⟩
    rw [HE.out]
    obtain ⟨pa, os, rfl, hq⟩ := hp3
    obtain ⟨qa, qc, rfl⟩ := own_slice hq.own
    clear hq
    go_wp2
    go_ret
    exact ⟨rfl, bstep (bthen HB.out hb3) (Below.refl _ _)⟩
  · have he : makeE A 6 = 0 := by rw [HE6.out, if_neg (by omega)]
    have hs6 : makeS A 6 = makeP A := by unfold makeS; rw [if_pos he]
    have HE := Lib.hid he; have HS6 := Lib.hid hs6
    clear he hs6
    refine (Make_call _ _ A 6 HVA.out (HG.out.mono HB.out) (HT.out.mono HB.out) (by omega)).mono ?_
    rintro e w3 ⟨p3, rfl, hp3, hb3⟩
    rw [HE.out]
    have hpr := hp3.reads
    rw [HS6.out] at hp3 hpr
    obtain ⟨pa, os, rfl, hq⟩ := hp3
    obtain ⟨qa, qc, rfl⟩ := own_slice hq.own
    obtain ⟨lo, hlo2⟩ : ∃ lo, lo = lowerS A := ⟨_, rfl⟩
    have HLO := Lib.hid hlo2
    obtain ⟨pl, hpl⟩ : ∃ pl, pl = (makeP A).asks.length := ⟨_, rfl⟩
    rw [← hpl, show (makeP A).depth = d from HD.out.symm, show (makeP A).lower = lo from hlo2.symm] at hpr ⊢
    have HB3 := Lib.hid hb3; have HPR := Lib.hid hpr; have HPL := Lib.hid hpl
    clear hq hb3 hpl hlo2 hpr
    by_cases hA0 : A.length = 0
    · have a0 : ((A.length : Int) == 0) = true := by simp [hA0]
      have HA0 := Lib.hid hA0
      clear hA0
      go_wp2
      go_ret
      exact ⟨rfl, bstep (bthen HB.out HB3.out) (Below.refl _ _)⟩
    · have a0 : ((A.length : Int) == 0) = false := by rw [beq_eq_false_iff_ne]; omega
      obtain ⟨k, hk⟩ : ∃ k, k = x % A.length := ⟨_, rfl⟩
      have hkl : k < A.length := by rw [hk]; exact Nat.mod_lt _ (by omega)
      have h1 : ((x : Int).tmod A.length) = k := by rw [Int.tmod_eq_emod_of_nonneg (by omega), hk]; rfl
      have h2 : ((x : Int) % A.length) = k := by rw [hk]; rfl
      have k0 : (0 : Int) ≤ k := by omega
      have k1 : (k : Int) < A.length := by omega
      have HK := Lib.hid hk
      have hva3 := HVA.out.mono HB3.out
      obtain ⟨b1, o1, rfl, g1, ra, rc, p0, p1⟩ := hva3.1.at hkl
      obtain ⟨u, hu⟩ : ∃ u, u = A.getD k [] := ⟨_, rfl⟩
      rw [← hu] at p0 p1
      simp only [Nat.mul_one] at p0
      have HU := Lib.hid hu; have HP1 := Lib.hid p1; have HVA3 := Lib.hid hva3
      have hmm := @run_makeMap Tryz.prog
      obtain ⟨U, hUU⟩ : ∃ U, U = usefulS A (inputsS A) := ⟨_, rfl⟩
      have HUU := Lib.hid hUU
      clear hUU
      clear hk hu p1 hva3
      go_wp2_with (first | (go_at_call 21; refine (Useful_call _ _ A (HVA3.out.mono (below2 _ _ _)) ((HG.out.mono HB.out).mono (HB3.out.trans ((below2 _ _ _).mono HB3.out.size))) (by omega)).mono ?_; rintro e w5 ⟨uv, rfl, hu5, hb5⟩; rw [← HUU.out] at hu5; obtain ⟨ua, uc, rfl⟩ := own_slice hu5; rw [pInts_len] at hu5; rw [pInts_len]))
      have hUU := HUU.out
      obtain ⟨r, hr⟩ : ∃ r, r = w3.heap.size + 1 := ⟨_, rfl⟩
      rw [← hr]
      have hpc5 : w5.heap[w3.heap.size]? = some (.cells #[.slice qa pl qc, .int .i64 d, .int .i64 lo] 29) :=
        (hb5.block w3.heap.size (by simp; omega)).trans (((below1 _ _).block w3.heap.size (by simp)).trans (heap_alloc_new w3 _))
      have hm5 : MapAt w5 r .i64 [] := by
        refine ⟨#[], 0, ?_, by simp⟩
        rw [hr, hb5.block _ (by simp)]
        have := heap_alloc_new (w3.alloc (.cells #[.slice qa pl qc, .int .i64 d, .int .i64 lo] 29)) (.map #[] 0)
        simpa using this
      have hb35 : Below w3.heap.size w3 w5 := ((below2 _ _ _).trans (hb5.mono (by simp; omega)))
      have hz5 : r < w5.heap.size := hm5.lt
      have hru : ∀ g, (Value.slice ua U.length uc).ownBlock = some g → r < g := fun g hg => by have := (hu5.lt g hg).1; simp at this; omega
      have HPC5 := Lib.hid hpc5; have HM5 := Lib.hid hm5; have HB35 := Lib.hid hb35; have HU5 := Lib.hid hu5; have HR5 := Lib.hid hr; have HRU := Lib.hid hru
      have hr3 : w3.heap.size < r := by omega
      have hU10 : U.length ≤ 10 := by rw [hUU]; refine Nat.le_trans (List.length_filter_le _ _) ?_; simp; exact HOK.out.m10
      have hUx : ∀ y ∈ U, y < 10 := fun y hy => by rw [hUU] at hy; have := List.mem_range.1 (List.mem_filter.1 hy).1; have := HOK.out.m10; omega
      have HUX := Lib.hid hUx
      clear hb5 hUU hpc5 hm5 hb35 hu5 hr hru hmm hUx
      go_loopw [12, 57] (fun x i wr => ∃ j : Nat, j ≤ U.length ∧ i = .int .i64 j ∧ w5.grownBy wr (some r) ∧ ∃ l, MapAt wr r .i64 l ∧ ∀ y ∈ U.take j, lk l (y : Nat) = some (.bool true)) (fun _ i _ => U.length - (intOf i).toNat)
      case atStart => exact ⟨0, by omega, rfl, World.grownBy.refl _ _, [], HM5.out, by simp⟩
      case round =>
        obtain ⟨j, hj, rfl, hg, l, hm, hl⟩ := hrel
        have HGR := Lib.hid hg; have HM := Lib.hid hm; have HL := Lib.hid hl
        have hzr := hg.size
        by_cases hlt : j < U.length
        · have q1 : (j:Int) < U.length := by omega
          have q0 : 0 ≤ (j:Int) := by omega
          have hui := own_ints (HU5.out.kept hg (by cases h : (Value.slice ua U.length uc).ownBlock with | none => exact .inl rfl | some g => exact .inr (by have := HRU.out g h; intro e; cases e; omega))) (by rw [pInts_len]; omega) (fun y hy => by simp [pInts] at hy; obtain ⟨z, hz, rfl⟩ := hy; have := HUX.out z hz; omega)
          obtain ⟨b2, o2, rfl, g2, c0⟩ := hui.1.at (show j < (pInts U).length by rw [pInts_len]; exact hlt)
          rw [pInts_getD hlt] at c0
          simp only [Nat.mul_one] at c0
          obtain ⟨y, hy⟩ : ∃ y, y = U.getD j 0 := ⟨_, rfl⟩
          rw [← hy] at c0
          have HY := Lib.hid hy
          obtain ⟨w4, hupd, hm4, hg4⟩ := run_update (P := Tryz.prog) wr 56 3 4 .i64 y (.bool true) r l und_seen und_int hm
          have HM4 := Lib.hid hm4; have HG4 := Lib.hid hg4
          clear hg hm hl hui hy hm4 hg4
          go_wp2
          refine ⟨⟨j + 1, by omega, by go_num, grown_trans HGR.out HG4.out, _, HM4.out, fun z hz => ?_⟩, by simp [intOf]; omega⟩
          rw [lk_upd]
          split
          · rfl
          · rename_i hne
            refine HL.out z ?_
            rw [List.take_add_one, List.mem_append] at hz
            rcases hz with h | h
            · exact h
            · rw [List.getElem?_eq_getElem hlt] at h
              simp at h
              exact absurd (by rw [HY.out, h, List.getD_eq_getElem?_getD, List.getElem?_eq_getElem hlt]; rfl) hne
        · obtain rfl : j = U.length := by omega
          clear hg hm hl
          go_wp2_with (first | (go_at_call 28; refine (All_call _ _ (by omega)).mono ?_; rintro e w7 ⟨lv, rfl, hl7, hb7⟩))
          have hpcr : wr.heap[w3.heap.size]? = some (.cells #[.slice qa pl qc, .int .i64 d, .int .i64 lo] 29) := (HGR.out.block w3.heap.size (by omega) (by simp; omega)).trans HPC5.out
          have hb3r : Below w3.heap.size w3 wr := HB35.out.grown HGR.out (by omega) (fun g hg => by cases hg; omega)
          have hlU : ∀ y ∈ U, lk l (y : Nat) = some (.bool true) := by have := HL.out; rwa [List.take_length] at this
          have hbl : Below w.heap.size w wr := bthen (bthen HB.out HB3.out) hb3r
          obtain ⟨W6, rfl⟩ : ∃ W6 : World, W6 = wr := ⟨_, rfl⟩
          have HPCR := Lib.hid hpcr; have HB3R := Lib.hid hb3r; have HLU := Lib.hid hlU
          have hz6 : w3.heap.size < W6.heap.size := by omega
          have hsq : planI (makeP A) = ⟨(planF A (inputsS A) 13 (fullS A) 0).map askI, d, lo⟩ := by rw [HD.out, HLO.out]; rfl
          have hpr := HPR.out
          rw [hsq] at hpr
          obtain ⟨Q, hQ⟩ : ∃ Q, Q = planF A (inputsS A) 13 (fullS A) 0 := ⟨_, rfl⟩
          have hQl : Q.length = pl := by rw [hQ, HPL.out]; rfl
          rw [← hQ] at hpr
          have HPQ := Lib.hid hpr; have HQ := Lib.hid hQ; have HQL := Lib.hid hQl
          have hml : u.length = inputsS A := by rw [HU.out, List.getD_eq_getElem?_getD, List.getElem?_eq_getElem hkl]; exact (HOK.out.row _ (List.getElem_mem _)).1
          have HML := Lib.hid hml
          have hul10 : u.length ≤ 10 := by rw [hml]; exact HOK.out.m10
          obtain ⟨i0, hi, hz0, hz1, hz2⟩ := info_parts info_int
          have Hi := Lib.hid hi; have Hz0 := Lib.hid hz0; have Hz1 := Lib.hid hz1; have Hz2 := Lib.hid hz2
          obtain ⟨j0, ji, jz0, jz1, jz2⟩ := info_parts info_value
          have Ji := Lib.hid ji; have Jz0 := Lib.hid jz0; have Jz1 := Lib.hid jz1; have Jz2 := Lib.hid jz2
          clear hpcr hb3r hlU hpr hQ hQl hml hi hz0 hz1 hz2 ji jz0 jz1 jz2 hsq
          have hd12 : d ≤ 13 := by rw [HD.out]; exact dep_le _ _ _
          go_loopw [13, 14, 15, 16, 17, 18, 20] (fun rv lv _ _ _ _ _ wr => ∃ (xs : List Nat) (s : Nat) (a : Int) (zs : List ZV), Tell A (inputsS A) Q k xs s a ∧ zs.map (·.1) = xs ∧ (∀ z ∈ zs, z.1 ≤ 10) ∧ wr.ownsRow W6.heap.size 47 7 rv xs.length (cvs zs) ∧ wr.ownsRow W6.heap.size 3 1 lv (bitsOf s).length (ci (pInts (bitsOf s))) ∧ Below W6.heap.size W6 wr) (fun rv _ _ _ _ _ _ _ => d - lenOf rv)
          case atStart =>
            obtain ⟨a, ha⟩ := Tell.start (m := inputsS A) HOK.out.len hkl
            rw [← HQ.out] at ha
            refine ⟨[], fullS A, a, [], ha, rfl, by simp, World.ownsRow_nil _ _ _ _, ?_, hb7⟩
            rw [show bitsOf (fullS A) = List.range A.length from bits_full HOK.out.len, List.length_range]
            rw [upTo_len] at hl7; exact hl7
          case round =>
            obtain ⟨xs, s, a, zs, hT, hzs, hx9, ho, hl, hbz⟩ := hrel
            have HT := Lib.hid hT; have HZS := Lib.hid hzs; have HO := Lib.hid ho; have HL := Lib.hid hl; have HBZ := Lib.hid hbz
            have hsz := hbz.size
            obtain ⟨ra2, rc2, rfl⟩ := own_slice ho
            obtain ⟨la, lc, rfl⟩ := own_slice hl
            have hpcz : wr.heap[w3.heap.size]? = some (.cells #[.slice qa pl qc, .int .i64 d, .int .i64 lo] 29) := (hbz.block w3.heap.size hz6).trans HPCR.out
            have k0 : wr.cell? ⟨w3.heap.size, 0, none⟩ = some (.slice qa pl qc) := cell_of_row _ _ _ _ _ _ hpcz
            have k1 : wr.cell? ⟨w3.heap.size, 1, none⟩ = some (.int .i64 d) := cell_of_row _ _ _ _ _ _ hpcz
            have k2 : wr.cell? ⟨w3.heap.size, 2, none⟩ = some (.int .i64 lo) := cell_of_row _ _ _ _ _ _ hpcz
            have hw3z : w3.heap.size < wr.heap.size := by omega
            have hzl : zs.length = xs.length := by rw [← hzs, List.length_map]
            have hxd : xs.length + dep A (inputsS A) s ≤ d := by rw [HD.out]; exact hT.len
            have hvr : Vals wr (.slice ra2 xs.length rc2) xs := by
              have := own_vals ho (by omega) hx9
              rwa [hzs] at this
            have HVR := Lib.hid hvr
            have hfol := hT.fol
            have HX9 := Lib.hid hx9
            have hpw : Below w3.heap.size w3 wr := bthen HB3R.out hbz
            have HPW := Lib.hid hpw
            clear hT hzs ho hl hbz hpcz hvr hx9 hpw
            obtain ⟨f, hf⟩ : ∃ f, f = followS (Q.map askI) xs := ⟨_, rfl⟩
            have hnd : ¬ ((d : Int) < xs.length) := by omega
            rcases HT.out.pos with ⟨hd0, ha⟩ | ⟨f, n, hd0, ha, hpl, hc⟩
            · rw [ha] at hfol
              have HFO := Lib.hid hfol
              have hpl0 : ¬ ((-1 : Int) ≥ pl) := by omega
              clear hfol hf
              go_wp2_with (first | (go_at_call 26; refine (Follow_call _ _ _ _ xs (HPQ.out.mono HPW.out) HVR.out).mono ?_; rintro e w8 ⟨rfl, hb8⟩; simp only []; rw [HFO.out]; have hc8 := olds hb8) | (go_at_call 30; refine (Alike_true _ _ _ A (bitsOf s) (HVA3.out.mono (bthen HPW.out hb8)) (own_ints (own_below HL.out hb8) (by rw [pInts_len]; have := bits_len s; omega) (fun y hy => by simp [pInts] at hy; obtain ⟨z, hz, rfl⟩ := hy; have := bits_lt hz; omega)) (fun p hp => bits_lt_pow HT.out.lt hp) (dep_zero HOK.out HT.out.lt hd0)).mono ?_; rintro e w9 ⟨rfl, hb9⟩))
              go_ret
              have hbl2 : Below w.heap.size w w3 := bthen HB.out HB3.out
              exact ⟨rfl, bthen (bthen (bthen hbl2 HPW.out) hb8) hb9⟩
            · obtain ⟨hnq, hfi⟩ := hpl.first hd0
              obtain ⟨_, hq2⟩ := HPQ.out
              obtain ⟨he1, hq3⟩ := hq2
              simp only [Value.agg.injEq, Array.mk.injEq, List.cons.injEq, and_true] at he1
              obtain ⟨rfl, _⟩ := he1
              have hql3 := hq3.mono HPW.out
              obtain ⟨b2, o2, rfl, g2, hask⟩ := hql3.1.at (show n < (Q.map askI).length by simpa using hnq)
              rw [hfi] at hask
              obtain ⟨r0, _⟩ := hask
              obtain ⟨y, hy⟩ : ∃ y, y = inp A (inputsS A) s := ⟨_, rfl⟩
              rw [← hy] at r0
              simp only [askI] at r0
              have hyU : y ∈ U := by rw [HUU.out, hy]; exact inp_useful HR.out HT.out.lt hd0
              have hyu : y < u.length := by rw [HML.out, hy]; exact (inp_spec hd0).1
              have hlk := HLU.out y hyU
              have hm8 := HM.out
              obtain ⟨b3, o3, rfl, g3, hva⟩ := (HP1.out.mono HPW.out).1.at hyu
              obtain ⟨vx, hx⟩ : ∃ vx, vx = u.getD y 0 := ⟨_, rfl⟩
              rw [← hx] at hva
              obtain ⟨vc, vd, v0, v1, v2, v3, v4, v5, v6⟩ := hva
              have hx10 : vx ≤ 10 := HP1.out.2.2 _ (by rw [hx, List.getD_eq_getElem?_getD, List.getElem?_eq_getElem hyu]; exact List.getElem_mem _)
              rw [ha] at hfol
              have HFO := Lib.hid hfol; have HY := Lib.hid hy; have HX := Lib.hid hx
              have q1 : (n : Int) < pl := by rw [← HQL.out]; omega
              have q0 : (0 : Int) ≤ n := by omega
              have q2 : ¬ ((n : Int) < 0) := by omega
              have q3 : ¬ ((n : Int) ≥ pl) := by omega
              have q4 : ¬ ((y : Int) ≥ u.length) := by omega
              have q5 : ¬ ((y : Int) < 0) := by omega
              have q6 : (y : Int) < u.length := by omega
              have q7 : (0 : Int) ≤ y := by omega
              have hru := (@run_lookup Tryz.prog · 56 3 4 .i64 y r l _ und_seen und_int · hlk false)
              simp only [Bool.false_eq_true, ↓reduceIte] at hru
              clear hfol hf hy hx hfi hpl hc hlk hyU hql3 hq3
              go_wp2_with (first | (go_at_call 26; refine (Follow_call _ _ _ _ xs (HPQ.out.mono HPW.out) HVR.out).mono ?_; rintro e w8 ⟨rfl, hb8⟩; simp only []; rw [HFO.out]; have hc8 := olds hb8; have hr8 := hru w8 ((HM.out.of HBZ.out).of hb8)) | (at_builtin; refine Classical.byContradiction fun hgoal => ?_))
              refine hgoal ?_
              have hown8 := ((own_below HO.out hb8).alloc (.cells (cv (vx, vc, vd)).toArray 47))
              have hce := One.cells (cs := cv (vx, vc, vd)) (heap_alloc_new w8 (.cells (cv (vx, vc, vd)).toArray 47))
              refine wpList_app rfl (.tmp 111) (.tmp 116) 42 rfl W6.heap.size 47 j0 _ 7 96 und_vals Ji.out Jz0.out Jz1.out Jz2.out rfl (by decide) _ _ _ rfl hown8 ⟨w8.heap.size, 0, none⟩ 1 1 (cv (vx, vc, vd)) rfl rfl hce (cvs_one' (vx, vc, vd)) (by unfold maxLen; omega) (by omega) (by have := hb8.size; simp; omega) ?_
              intro v' w9 hown hgr hfr
              have hz8 := hb8.size
              have hgr1 : (w8.alloc (.cells (cv (vx, vc, vd)).toArray 47)).grownBy w9 (Value.slice ra2 xs.length rc2).ownBlock := hgr
              have hl9 := ((own_below HL.out hb8).alloc (.cells (cv (vx, vc, vd)).toArray 47)).kept hgr1 (own_apart ((own_below HL.out hb8).alloc (.cells (cv (vx, vc, vd)).toArray 47)) hown8 (by decide))
              have hb9 := ((bthen HBZ.out hb8).alloc (bthen HBZ.out hb8).size (.cells (cv (vx, vc, vd)).toArray 47)).grown hgr1 (by simp; omega) (fun g hg => (hown8.lt g hg).1)
              have HL9 := Lib.hid hl9; have HB9 := Lib.hid hb9; have HOWN := Lib.hid hown; have HB8 := Lib.hid hb8
              clear hl9 hb9 hown hgr hfr hgr1 hown8 hce hgoal hr8 hru v0 v1 v2 v3 v4 v5 v6 r0 k0 k1 k2 hb8 hc8
              go_wp2
              have hpw9 : Below w3.heap.size w3 w9 := bthen HB3R.out HB9.out
              have hz69 : W6.heap.size ≤ w9.heap.size := HB9.out.size
              have HPW9 := Lib.hid hpw9
              have hi9 := own_ints HL9.out (by rw [pInts_len]; have := bits_len s; omega) (fun y hy => by simp [pInts] at hy; obtain ⟨z, hz, rfl⟩ := hy; have := bits_lt hz; omega)
              have HI9 := Lib.hid hi9
              obtain ⟨B, hBB⟩ : ∃ B, B = bitsOf s := ⟨_, rfl⟩
              have hBA : ∀ p ∈ B, p < A.length := fun p hp => by rw [hBB] at hp; exact bits_lt_pow HT.out.lt hp
              have hBl : B.length ≤ 12 := by rw [hBB]; exact bits_len s
              rw [← hBB]
              rw [← hBB] at hi9
              have HBB := Lib.hid hBB; have HBA := Lib.hid hBA; have HI9 := Lib.hid hi9
              clear hBB hi9 hBA hpw9
              go_loopw [18, 20, 120] (fun sv _ i wq => ∃ j : Nat, j ≤ B.length ∧ i = .int .i64 j ∧ wq.ownsRow w9.heap.size 3 1 sv (sel A y (B.take j) vx).length (ci (pInts (sel A y (B.take j) vx))) ∧ Below w9.heap.size w9 wq) (fun _ _ i _ => B.length - (intOf i).toNat)
              case atStart => exact ⟨0, by omega, rfl, World.ownsRow_nil _ _ _ _, Below.refl _ _⟩
              case round =>
                obtain ⟨j, hj, rfl, hos, hbq⟩ := hrel
                have HOS := Lib.hid hos; have HBQ := Lib.hid hbq
                obtain ⟨sa, sc, rfl⟩ := own_slice hos
                obtain ⟨S, hS⟩ : ∃ S, S = sel A y (B.take j) vx := ⟨_, rfl⟩
                rw [← hS] at hos ⊢
                have HS := Lib.hid hS
                have hSl : S.length ≤ 12 := by rw [hS]; refine Nat.le_trans (List.length_filter_le _ _) ?_; simp; omega
                have HO2S := Lib.hid hos
                by_cases hlt : j < B.length
                · have t1 : (j:Int) < B.length := by omega
                  have t0 : 0 ≤ (j:Int) := by omega
                  obtain ⟨b5, o5, rfl, g5, c5⟩ := (HI9.out.mono hbq).1.at (show j < (pInts B).length by rw [pInts_len]; exact hlt)
                  rw [pInts_getD hlt] at c5
                  simp only [Nat.mul_one] at c5
                  obtain ⟨p, hp⟩ : ∃ p, p = B.getD j 0 := ⟨_, rfl⟩
                  rw [← hp] at c5
                  have HP := Lib.hid hp
                  have hpl : p < A.length := HBA.out p (by rw [hp, List.getD_eq_getElem?_getD, List.getElem?_eq_getElem hlt]; exact List.getElem_mem _)
                  have t2 : (p:Int) < A.length := by omega
                  have t3 : 0 ≤ (p:Int) := by omega
                  have hpwq := bthen HPW9.out hbq
                  obtain ⟨b6, o6, hbo, g6, pa_, pc_, d0, d1⟩ := (HVA3.out.mono hpwq).1.at hpl
                  simp only [Option.some.injEq, Addr.mk.injEq, and_true] at hbo
                  obtain ⟨rfl, rfl⟩ := hbo
                  simp only [Nat.mul_one] at d0
                  obtain ⟨P, hP⟩ : ∃ P, P = A.getD p [] := ⟨_, rfl⟩
                  rw [← hP] at d0 d1
                  have hPu : P.length = u.length := by rw [hP, List.getD_eq_getElem?_getD, List.getElem?_eq_getElem hpl, HML.out]; exact (HOK.out.row _ (List.getElem_mem _)).1
                  rw [hPu] at d0 d1
                  obtain ⟨b7, o7, rfl, g7, hv7⟩ := d1.1.at (show y < P.length by omega)
                  obtain ⟨b8, o8, hbo, g8, hv8⟩ := (HP1.out.mono hpwq).1.at hyu
                  simp only [Option.some.injEq, Addr.mk.injEq, and_true] at hbo
                  obtain ⟨rfl, rfl⟩ := hbo
                  rw [← HX.out] at hv8
                  obtain ⟨z, hz⟩ : ∃ z, z = P.getD y 0 := ⟨_, rfl⟩
                  rw [← hz] at hv7
                  have hz10 : z ≤ 10 := d1.2.2 z (by rw [hz, List.getD_eq_getElem?_getD, List.getElem?_eq_getElem (by omega)]; exact List.getElem_mem _)
                  have hgz : gval A y p = z := by rw [hz, hP]; rfl
                  obtain ⟨vc1, vd1, e0, e1, e2, e3, e4, e5, e6⟩ := hv7
                  obtain ⟨vc2, vd2, f0, f1, f2, f3, f4, f5, f6⟩ := hv8
                  have hst : sel A y (B.take (j + 1)) vx = S ++ (if z = vx then [p] else []) := by
                    rw [List.take_add_one, List.getElem?_eq_getElem hlt]
                    have : (some B[j]).toList = [p] := by rw [hp, List.getD_eq_getElem?_getD, List.getElem?_eq_getElem hlt]; rfl
                    rw [this, sel_snoc, hgz, ← hS]
                  have HST := Lib.hid hst; have HPP := Lib.hid hP; have HZ := Lib.hid hz; have HGZ := Lib.hid hgz
                  clear hst hP hz hp hS hos hbq hpwq hgz d1
                  by_cases hzv : z = vx
                  · have hzb : (z == vx) = true := by simp [hzv]
                    have HZV := Lib.hid hzv
                    clear hzv
                    go_wp2
                    go_region_held3 (fun w' => ∀ b o, b < wr.heap.size → w'.cell? ⟨b, o, none⟩ = wr.cell? ⟨b, o, none⟩) (first | exact olds (Below.refl _ _) | exact olds ((Below.refl _ _).drew) | exact olds ‹Below wr.heap.size wr _›)  (first | (go_at_call 29; refine (equal06 _ _ _ _ _ _ _ hz10 hx10).mono ?_; rintro e w1 ⟨rfl, hbw0⟩; have hbw := bdrew hbw0; simp only [hzb]))
                    go_wp2_with (at_builtin; refine wpList_app rfl (.tmp 136) (.tmp 138) 26 rfl w9.heap.size 3 i0 (.int .i64 0) 1 8 und_ints Hi.out Hz0.out Hz1.out Hz2.out rfl (by decide) _ _ _ rfl ((own_below HO2S.out hbw).alloc (.cells #[.int .i64 p] 3)) ⟨w1.heap.size, 0, none⟩ 1 1 [.int .i64 p] rfl rfl (cell_one_new _ _ _) (by intro q hq; simp at hq; subst hq; rfl) (by unfold maxLen; omega) (by omega) (by have := hbw.size; have := HBQ.out.size; simp; omega) ?_; intro v5 w5 hown5 hgr5 hfr5)
                    have hbq1 := bthen HBQ.out hbw
                    refine ⟨⟨j + 1, by omega, by go_num, ?_, (hbq1.alloc hbq1.size _).grown hgr5 (by have := hbq1.size; simp; omega) (fun g hg => (HO2S.out.lt g hg).1)⟩, by simp [intOf]; omega⟩
                    rw [HST.out, if_pos HZV.out]
                    have e1 : (S ++ [p]).length = S.length + 1 := by simp
                    have e2 : ci (pInts (S ++ [p])) = ci (pInts S) ++ [.int .i64 p] := by simp [ci, pInts]
                    rw [e1, e2]
                    exact hown5
                  · have hzb : (z == vx) = false := by simp [hzv]
                    have HZV := Lib.hid hzv
                    clear hzv
                    go_wp2
                    go_region_held3 (fun w' => ∀ b o, b < wr.heap.size → w'.cell? ⟨b, o, none⟩ = wr.cell? ⟨b, o, none⟩) (first | exact olds (Below.refl _ _) | exact olds ((Below.refl _ _).drew) | exact olds ‹Below wr.heap.size wr _›)  (first | (go_at_call 29; refine (equal06 _ _ _ _ _ _ _ hz10 hx10).mono ?_; rintro e w1 ⟨rfl, hbw0⟩; have hbw := bdrew hbw0; simp only [hzb]))
                    go_wp2
                    refine ⟨⟨j + 1, by omega, by go_num, ?_, bthen HBQ.out hbw⟩, by simp [intOf]; omega⟩
                    rw [HST.out, if_neg HZV.out, List.append_nil]
                    exact own_below HO2S.out hbw
                · obtain rfl : j = B.length := by omega
                  have hSb : S = sel A y (bitsOf s) vx := by rw [HS.out, List.take_length, HBB.out]
                  have HSB := Lib.hid hSb
                  clear hSb hS hbq hos
                  go_wp2
                  obtain ⟨b, hb⟩ := Tell.step HT.out hd0
                  have hgv : gval A (inp A (inputsS A) s) k = vx := by rw [← HY.out, HX.out, HU.out]; rfl
                  rw [hgv, ← HY.out, ← HSB.out] at hb
                  have hbits : bitsOf (mask (pInts S)) = S := by rw [HSB.out]; unfold sel; rw [bits_mask]
                  have hdp := HT.out.len
                  rw [← HD.out] at hdp
                  refine ⟨⟨xs ++ [vx], mask (pInts S), b, zs ++ [(vx, vc, vd)], hb, by simp [HZS.out], ?_, ?_, ?_, HB9.out.trans (HBQ.out.mono HB9.out.size)⟩, ?_⟩
                  · intro q hq
                    rw [List.mem_append] at hq
                    rcases hq with h | h
                    · exact HX9.out q h
                    · simp at h; subst h; exact hx10
                  · rw [cvs_snoc, List.length_append]
                    exact own_below HOWN.out HBQ.out
                  · rw [hbits]
                    exact own_base HO2S.out hz69
                  · obtain ⟨ga, gc, rfl⟩ := own_slice HOWN.out
                    simp only [lenOf]
                    omega
end Go.Proofs.YtoiemkifgdnhaaaGreatDoor
