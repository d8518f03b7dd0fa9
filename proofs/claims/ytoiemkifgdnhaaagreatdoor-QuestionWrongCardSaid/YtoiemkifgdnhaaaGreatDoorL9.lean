/- Sets of programs as bits: their least element, their elements. Conditions: sets of twelve programs at most; the library's table lies as it is laid.
  A set is divided by an input: its groups as values and sets. The readings. Conditions: sets of twelve programs at most.
  A set is divided by an input: the walk. Conditions: sets of twelve programs at most.
  A map with int keys is written. No conditions.
  The groups of a set, by their law; the depth of a set. No program in sight.
  The depth with a first question: the walk. Conditions: sets of twelve programs at most. -/
import Derived.Test.YtoiemkifgdnhaaaGreatDoorL8
import Derived.Lib.TrailingZeros
import Derived.Laws.Bits64b
namespace Go.Proofs.YtoiemkifgdnhaaaGreatDoor
open Go Go.RowKit
def GT (w : World) : Prop := 1 < w.heap.size ∧ ∀ j, j < 64 → w.cell? ⟨1, j, none⟩ = some (.int .u8 (Lib.deBruijn64tab.getD j 0))
theorem GT.mono {w w' : World} (h : GT w) (hb : Below w.heap.size w w') : GT w' := ⟨Nat.lt_of_lt_of_le h.1 hb.size, fun i hi => by rw [olds hb _ _ h.1]; exact h.2 i hi⟩
set_option maxHeartbeats 400000 in
theorem tz64_core (x k idx : Nat) (w : World) (hx0 : ((x : Int) == 0) = false)
    (key : IntKind.u64.wrap (bits BinOp.and IntKind.u64 (x : Int) (IntKind.u64.wrap (-(x : Int))) * 285870213051353865) / 288230376151711744 = (idx : Int))
    (hi : idx < 64) (hk : k < 64) (hcell : w.cell? ⟨1, idx, none⟩ = some (.int .u8 k)) :
    Calls Tryz.prog 143 #[.int .u64 x] w fun e w' => e = .returned (.int .i64 k) ∧ w = w' := by
  go_enter Tryz.func143, Tryz.ntmps143
  go_wp2_with (simp only [key])
  go_ret
  exact ⟨rfl, rfl⟩
theorem tz64_key (x a : Nat) (hx : x < 18446744073709551616) (hx0 : x ≠ 0) (hlow : x &&& (18446744073709551616 - x) = a) :
    IntKind.u64.wrap (bits BinOp.and IntKind.u64 (x : Int) (IntKind.u64.wrap (-(x : Int))) * 285870213051353865) / 288230376151711744 = ((a * 285870213051353865 % 18446744073709551616 / 288230376151711744 : Nat) : Int) := by
  have e1 : IntKind.u64.wrap (-(x : Int)) = ((18446744073709551616 - x : Nat) : Int) := by rw [IntKind.wrap_u64]; omega
  rw [e1, bits_and_u64_nat x _ hx (by omega), hlow, IntKind.wrap_u64]
  omega
set_option maxHeartbeats 400000 in
theorem tz_call (x : Nat) (hx : x < 4096) (hx0 : x ≠ 0) (w : World) (hT : GT w) : Calls Tryz.prog 112 #[.int .u64 x] w fun e w' => e = .returned (.int .i64 (Lib.ctz 64 x)) ∧ w = w' := by
  obtain ⟨hlow, hk⟩ := Lib.lowest_bit 64 x hx0 (by omega)
  obtain ⟨hi, htab⟩ := Lib.deBruijn64_at _ hk
  have hcell := hT.2 _ hi
  rw [htab] at hcell
  have H := Lib.hid (tz64_core x _ _ w (by simp; omega) (tz64_key x _ (by omega) hx0 hlow) hi hk hcell)
  clear hlow hk hi htab hcell hT
  go_enter Tryz.func112, Tryz.ntmps112
  go_wp2_with (go_at_call 143; refine H.out.mono ?_; rintro e w1 ⟨rfl, rfl⟩)
  go_ret
  exact ⟨rfl, rfl⟩
/-- The elements of a set. -/
def bitsOf (s : Nat) : List Nat := (List.range 12).filter s.testBit
theorem bits_step : ∀ s, s < 4096 → s ≠ 0 → bitsOf s = Lib.ctz 64 s :: bitsOf (s &&& (s - 1)) ∧ s &&& (s - 1) < s := by
  have h : ((List.range 4096).all fun s => s == 0 || (bitsOf s == Lib.ctz 64 s :: bitsOf (s &&& (s - 1)) && decide (s &&& (s - 1) < s))) = true := by decide +kernel
  intro s hs h0
  rw [List.all_eq_true] at h
  have := h s (by simpa using hs)
  simpa [h0] using this
theorem bits_lt {s p : Nat} (h : p ∈ bitsOf s) : p < 12 := by simp [bitsOf] at h; exact h.1
theorem bits_len (s : Nat) : (bitsOf s).length ≤ 12 := by
  have := List.length_filter_le s.testBit (List.range 12); simpa [bitsOf] using this
set_option maxHeartbeats 400000 in
theorem members_call (s : Nat) (hs : s < 4096) (w : World) (hT : GT w) : Calls Tryz.prog 88 #[.int .u64 s] w (Owned w.heap.size 3 1 (bitsOf s).length (ci (pInts (bitsOf s))) w) := by
  have HT := Lib.hid hT; clear hT
  obtain ⟨i0, hi, hz0, hz1, hz2⟩ := info_parts info_int
  have Hi := Lib.hid hi; have Hz0 := Lib.hid hz0; have Hz1 := Lib.hid hz1; have Hz2 := Lib.hid hz2
  clear hi hz0 hz1 hz2
  have HS := Lib.hid hs; clear hs
  go_enter Tryz.func88, Tryz.ntmps88
  go_wp2
  go_loopw [0, 3] (fun a o wr => ∃ (r n : Nat) (l : List Nat), a = .int .u64 r ∧ r < 4096 ∧ bitsOf s = l ++ bitsOf r ∧ n = l.length ∧ wr.ownsRow w.heap.size 3 1 o n (ci (pInts l)) ∧ Below w.heap.size w wr) (fun a _ _ => (intOf a).toNat)
  case atStart => exact ⟨s, 0, [], rfl, HS.out, by simp, rfl, World.ownsRow_nil _ _ _ _, Below.refl _ _⟩
  case round =>
    obtain ⟨r, n, l, rfl, hr, hl, hn, ho, hbel⟩ := hrel
    have HL := Lib.hid hl; have HO := Lib.hid ho; have HBL := Lib.hid hbel; have HN := Lib.hid hn
    have HR := Lib.hid hr
    clear hl ho hbel hn hr
    by_cases h0 : r = 0
    · subst h0
      go_wp2
      go_ret
      have e : bitsOf 0 = [] := by decide
      have h1 := HL.out
      rw [e, List.append_nil] at h1
      exact ⟨_, rfl, by rw [h1, ← HN.out]; exact HO.out, HBL.out⟩
    · have h1 : ((r : Int) != 0) = true := by simp; omega
      have H0 := Lib.hid h0
      have hst := bits_step r HR.out h0
      have HST := Lib.hid hst
      have hnl : n ≤ 12 := by
        have := bits_len s; rw [HL.out, List.length_append, ← HN.out] at this; omega
      clear h0 hst
      go_wp2_with (first | (go_at_call 112; refine (tz_call r HR.out H0.out _ (HT.out.mono HBL.out)).mono ?_; rintro e w1 ⟨rfl, rfl⟩) | (at_builtin; refine wpList_app rfl (.tmp 10) (.tmp 13) 26 rfl w.heap.size 3 i0 (.int .i64 0) 1 8 und_ints Hi.out Hz0.out Hz1.out Hz2.out rfl (by decide) _ _ _ rfl (HO.out.alloc _) ⟨wr.heap.size, 0, none⟩ 1 1 [.int .i64 (Lib.ctz 64 r)] rfl rfl (cell_one_new _ _ _) (by intro q hq; simp at hq; subst hq; rfl) (by unfold maxLen; omega) (by omega) (by have := HBL.out.size; simp; omega) ?_; intro v' w9 hown hgr hfr))
      go_roundw
      case rel =>
        have e1 : IntKind.u64.wrap ((r : Int) - 1) = ((r - 1 : Nat) : Int) := by rw [IntKind.wrap_u64]; have := HR.out; have := H0.out; omega
        refine ⟨r &&& (r - 1), n + 1, l ++ [Lib.ctz 64 r], ?_, ?_, ?_, ?_, ?_, ?_⟩
        · rw [e1, bits_and_u64_nat _ _ (by have := HR.out; omega) (by have := HR.out; omega)]
        · have := HST.out.2; have := HR.out; omega
        · rw [HL.out, HST.out.1]; simp
        · rw [HN.out]; simp
        · simpa [ci, pInts] using hown
        · exact (HBL.out.alloc (by have := HBL.out.size; omega) _).grown hgr (by have := HBL.out.size; simp; omega) (fun g hg => (HO.out.lt g hg).1)
      case measure =>
        have e1 : IntKind.u64.wrap ((r : Int) - 1) = ((r - 1 : Nat) : Int) := by rw [IntKind.wrap_u64]; have := HR.out; have := H0.out; omega
        have e2 := bits_and_u64_nat r (r - 1) (by have := HR.out; omega) (by have := HR.out; omega)
        have := HST.out.2
        simp only [intOf, e1, e2]; omega
end Go.Proofs.YtoiemkifgdnhaaaGreatDoor
namespace Go.Proofs.YtoiemkifgdnhaaaGreatDoor
open Go Go.RowKit
/-- A call's own lists read as rows of ints. -/
theorem Lists.rows {w : World} {B : Nat} {o : Value} {ls : List (List Int)} (h : Lists w B o ls) (hl : ls.length ≤ 1000) (hx : ∀ l ∈ ls, l.length ≤ 1000 ∧ ∀ x ∈ l, 0 ≤ x ∧ x < 1000) : IntRows w o ls := by
  obtain ⟨os, h1, h2, h3, _⟩ := h
  have hin : ∀ k, k < ls.length → ∃ ra rc, os[k]? = some (.slice ra (ls.getD k []).length rc) ∧ Ints w (.slice ra (ls.getD k []).length rc) (ls.getD k []) := by
    intro k hk
    have e1 : os[k]? = some (os[k]'(by omega)) := by simp
    have e2 : ls[k]? = some (ls.getD k []) := by simp [hk]
    have h5 := h3 k _ _ e1 e2
    have hm : ls.getD k [] ∈ ls := by rw [List.getD_eq_getElem?_getD]; simp [hk]
    have h6 := own_ints h5 (by have := (hx _ hm).1; omega) (fun x hxx => by have := (hx _ hm).2 x hxx; omega)
    rcases own_cases h5 with ⟨h7, h8⟩ | ⟨g, cap, h7, _⟩
    · rw [h7] at h6; refine ⟨none, 0, ?_, ?_⟩
      · rw [e1, h7, h8]
      · rw [h8]; exact h6
    · rw [h7] at h6; exact ⟨_, cap, by rw [e1, h7], h6⟩
  refine ⟨?_, by omega⟩
  rcases own_cases h1 with ⟨rfl, h0⟩ | ⟨g, cap, rfl, _, hg, hn, hc⟩
  · rw [h0]; exact sl_nil _ _ _
  · refine ⟨_, cap, rfl, hn, fun _ => ⟨g, 0, rfl, hg, fun k hk => ?_⟩⟩
    obtain ⟨ra, rc, e1, e2⟩ := hin k hk
    exact ⟨ra, rc, by rw [show 0 + k * 1 = k by omega, hc k (by omega)]; exact e1, e2⟩
/-- Programs as bits. -/
def mask (l : List Int) : Nat := l.foldl (fun m p => m ||| 2 ^ p.toNat) 0
theorem mask_snoc (l : List Int) (p : Int) : mask (l ++ [p]) = mask l ||| 2 ^ p.toNat := by simp [mask]
theorem mask_lt : ∀ (l : List Int), (∀ x ∈ l, 0 ≤ x ∧ x < 12) → mask l < 4096 := by
  have h : ∀ (l : List Int) (m : Nat), m < 4096 → (∀ x ∈ l, 0 ≤ x ∧ x < 12) → l.foldl (fun m p => m ||| 2 ^ p.toNat) m < 4096 := by
    intro l
    induction l with
    | nil => intro m hm _; exact hm
    | cons x l ih =>
      intro m hm hx
      refine ih _ ?_ (fun y hy => hx y (by simp [hy]))
      have := hx x (by simp)
      exact Nat.or_lt_two_pow (n := 12) hm (Nat.pow_lt_pow_right (by omega) (by omega))
  exact fun l hx => h l 0 (by omega) hx
def divS (A : List (List Nat)) (k s : Nat) : List (Nat × Nat) := (gfold A k (bitsOf s)).1.zip ((gfold A k (bitsOf s)).2.map mask)
/-- A slice of groups. -/
def Grps (w : World) (v : Value) (gs : List (Nat × Nat)) : Prop :=
  Sl w v gs.length 8 (fun k b o => VAt w b o (gs.getD k (0, 0)).1 ∧ w.cell? ⟨b, o + 7, none⟩ = some (.int .u64 ((gs.getD k (0, 0)).2 : Nat))) ∧ gs.length ≤ 12 ∧ ∀ g ∈ gs, g.1 ≤ 10 ∧ g.2 < 4096
/-- What stays when all old cells read as they did. -/
abbrev Kp (w w' : World) : Prop := w.heap.size ≤ w'.heap.size ∧ ∀ b o, b < w.heap.size → w'.cell? ⟨b, o, none⟩ = w.cell? ⟨b, o, none⟩
theorem VAt.kp {w w' : World} {b o x : Nat} (h : VAt w b o x) (hb : Kp w w') (hs : b < w.heap.size) : VAt w' b o x := by
  obtain ⟨c, d, h⟩ := h
  exact ⟨c, d, by simpa only [hb.2 _ _ hs] using h⟩
theorem Sl.kp {w w' : World} {v : Value} {n sz : Nat} {E E' : Nat → Nat → Nat → Prop} (h : Sl w v n sz E) (hb : Kp w w')
    (he : ∀ k b o, k < n → b < w.heap.size → E k b o → E' k b o) : Sl w' v n sz E' := by
  obtain ⟨ao, cap, rfl, h1, h2⟩ := h
  refine ⟨ao, cap, rfl, h1, fun hne => ?_⟩
  obtain ⟨b, off, rfl, hbs, hc⟩ := h2 hne
  exact ⟨b, off, rfl, Nat.lt_of_lt_of_le hbs hb.1, fun k hk => he k b _ hk hbs (hc k hk)⟩
theorem Grps.kp {w w' : World} {v : Value} {gs : List (Nat × Nat)} (h : Grps w v gs) (hb : Kp w w') : Grps w' v gs :=
  ⟨h.1.kp hb fun _ _ _ _ hs he => ⟨he.1.kp hb hs, by rw [hb.2 _ _ hs]; exact he.2⟩, h.2⟩
theorem Ints.kp {w w' : World} {v : Value} {xs : List Int} (h : Ints w v xs) (hb : Kp w w') : Ints w' v xs :=
  ⟨h.1.kp hb fun _ _ _ _ hs he => by rw [hb.2 _ _ hs]; exact he, h.2⟩
theorem Vals.kp {w w' : World} {v : Value} {xs : List Nat} (h : Vals w v xs) (hb : Kp w w') : Vals w' v xs :=
  ⟨h.1.kp hb fun _ _ _ _ hs he => he.kp hb hs, h.2⟩
theorem ValRows.kp {w w' : World} {v : Value} {rows : List (List Nat)} (h : ValRows w v rows) (hb : Kp w w') : ValRows w' v rows :=
  ⟨h.1.kp hb fun _ _ _ _ hs ⟨ra, rc, h1, h2⟩ => ⟨ra, rc, by rw [hb.2 _ _ hs]; exact h1, h2.kp hb⟩, h.2⟩
theorem IntRows.kp {w w' : World} {v : Value} {rows : List (List Int)} (h : IntRows w v rows) (hb : Kp w w') : IntRows w' v rows :=
  ⟨h.1.kp hb fun _ _ _ _ hs ⟨ra, rc, h1, h2⟩ => ⟨ra, rc, by rw [hb.2 _ _ hs]; exact h1, h2.kp hb⟩, h.2⟩
theorem GT.of {w w' : World} (h : GT w) (k : Kp w w') : GT w' := ⟨Nat.lt_of_lt_of_le h.1 k.1, fun i hi => by rw [k.2 _ _ h.1]; exact h.2 i hi⟩
theorem Below.kp {w w' : World} (h : Below w.heap.size w w') : Kp w w' := ⟨h.size, olds h⟩
/-- The programs of a set, divided: what holds of the groups. -/
theorem gfold_inv {A : List (List Nat)} {k m : Nat} (hA : ∀ l ∈ A, l.length = m ∧ ∀ x ∈ l, x ≤ 10) (hk : k < m) (ps : List Nat) (hp : ∀ p ∈ ps, p < A.length) : GInv A (gfold A k ps) ps.length := by
  have h : ∀ n, n ≤ ps.length → GInv A (gfold A k (ps.take n)) n := by
    intro n
    induction n with
    | zero => intro _; exact ⟨by simp [gfold], rfl, by simp [gfold], by simp [gfold], by simp [gfold]⟩
    | succ n ih =>
      intro hn
      have hpA := hp (ps[n]'(by omega)) (List.getElem_mem _)
      rw [List.take_succ_eq_append_getElem (by omega), gfold_snoc]
      refine (ih (by omega)).step hpA ?_
      have hin : A.getD (ps[n]'(by omega)) [] ∈ A := by rw [List.getD_eq_getElem?_getD]; simp [hpA]
      have := hA _ hin
      unfold gval
      exact getD_le this.2 (by omega)
  have := h ps.length (Nat.le_refl _)
  rwa [List.take_length] at this
theorem info_group : (Tryz.prog.info? 100).map (fun i => (i.zero, i.size, i.bytes)) = some (some (.agg #[.int .i64 0, .string ⟨#[]⟩, .int .i64 0, .int .i64 0, .int .i64 0, .slice none 0 0, .slice none 0 0, .int .u64 0]), 8, 104) := by kernel_rfl
theorem und_groups : Tryz.prog.underlying 97 = some (.slice 100) := by kernel_rfl
/-- The answers that a planner works on. -/
structure Ok (A : List (List Nat)) (m : Nat) : Prop where
  len : A.length ≤ 12
  m10 : m ≤ 10
  row : ∀ l ∈ A, l.length = m ∧ ∀ x ∈ l, x ≤ 10
  inp : A ≠ [] → inputsS A = m
  inp0 : A = [] → m = 0
/-- A planner at q, whose answers, tables lie since w0. -/
def Plan0 (w0 w : World) (q : Nat) (A : List (List Nat)) : Prop :=
  Below w0.heap.size w0 w ∧ w0.heap.size ≤ q ∧ q < w.heap.size ∧ G w0 ∧ GT w0 ∧ ∃ a c, w.cell? ⟨q, 0, none⟩ = some (.slice a A.length c) ∧ ValRows w0 (.slice a A.length c) A
end Go.Proofs.YtoiemkifgdnhaaaGreatDoor
namespace Go.Proofs.YtoiemkifgdnhaaaGreatDoor
open Go Go.RowKit
def DivPost (A : List (List Nat)) (k s : Nat) (w : World) (en : Ending) (w' : World) : Prop :=
  ∃ b c, en = .returned (.slice (some ⟨b, 0, none⟩) (divS A k s).length c) ∧ Grps w' (.slice (some ⟨b, 0, none⟩) (divS A k s).length c) (divS A k s) ∧ Below w.heap.size w w' ∧ w.heap.size ≤ b
/-- The groups under way: the first j have their values; M says the sets. -/
def DSt (w4 wr : World) (g n : Nat) (xs : List Nat) (M : Nat → Nat) (j : Nat) : Prop :=
  Below w4.heap.size w4 wr ∧ (∃ ys, wr.ownsRow w4.heap.size 100 8 (.slice (some ⟨g, 0, none⟩) n n) n ys) ∧ (∀ t, t < j → VAt wr g (t * 8) (xs.getD t 0)) ∧ ∀ t, t < n → wr.cell? ⟨g, t * 8 + 7, none⟩ = some (.int .u64 (M t : Nat))
theorem VAt.set {w : World} {b o x o' : Nat} {u : Value} (h : VAt w b o x) (ho : o' < o ∨ o + 7 ≤ o') : VAt (w.setCell ⟨b, o', none⟩ u) b o x := by
  obtain ⟨c, d, h0, h1, h2, h3, h4, h5, h6⟩ := h
  exact ⟨c, d, by rw [cset_off (by omega)]; exact h0, by rw [cset_off (by omega)]; exact h1, by rw [cset_off (by omega)]; exact h2, by rw [cset_off (by omega)]; exact h3, by rw [cset_off (by omega)]; exact h4, by rw [cset_off (by omega)]; exact h5, by rw [cset_off (by omega)]; exact h6⟩
theorem DSt.set {w4 wr : World} {g n j o : Nat} {xs : List Nat} {M : Nat → Nat} {u : Value} (h : DSt w4 wr g n xs M j) (ho : j * 8 ≤ o) (ho2 : o % 8 ≠ 7) (hg : w4.heap.size ≤ g) : DSt w4 (wr.setCell ⟨g, o, none⟩ u) g n xs M j := by
  obtain ⟨h1, ⟨ys, h2⟩, h3, h4⟩ := h
  refine ⟨h1.setCell hg _, ⟨_, (h2.stored o u).1⟩, fun t ht => (h3 t ht).set (by omega), fun t ht => ?_⟩
  rw [cset_off (by omega)]; exact h4 t ht
theorem DSt.bit {w4 wr : World} {g n j t0 v : Nat} {xs : List Nat} {M : Nat → Nat} (h : DSt w4 wr g n xs M j) (ht0 : t0 < n) (hg : w4.heap.size ≤ g) : DSt w4 (wr.setCell ⟨g, t0 * 8 + 7, none⟩ (.int .u64 (v : Nat))) g n xs (fun t => if t = t0 then v else M t) j := by
  obtain ⟨h1, ⟨ys, h2⟩, h3, h4⟩ := h
  refine ⟨h1.setCell hg _, ⟨_, (h2.stored _ _).1⟩, fun t ht => (h3 t ht).set (by omega), fun t ht => ?_⟩
  by_cases hh : t = t0
  · subst hh; simp only [if_pos]; exact cset_same (h4 t ht)
  · simp only [if_neg hh]; rw [cset_off (by omega)]; exact h4 t ht
theorem DSt.cell {w4 wr : World} {g n j : Nat} {xs : List Nat} {M : Nat → Nat} (h : DSt w4 wr g n xs M j) (o : Nat) (ho : o < n * 8) : ∃ u, wr.cell? ⟨g, o, none⟩ = some u := by
  obtain ⟨h1, ⟨ys, h2⟩, h3, h4⟩ := h
  have hl := h2.1
  exact ⟨ys[o]'(by omega), by rw [h2.cellAt o ho]; simp⟩
theorem DSt.frozen {w4 wr : World} {g n j : Nat} {xs : List Nat} {M : Nat → Nat} (h : DSt w4 wr g n xs M j) (o : Nat) : wr.frozen? ⟨g, o, none⟩ = false := by
  obtain ⟨h1, ⟨ys, h2⟩, h3, h4⟩ := h
  exact h2.frozenAt o
theorem made8 (n t : Nat) (z : Array Value) (hz : z.size = 8) (h7 : z[7]? = some (.int .u64 0)) (ht : t < n) : (madeCells z (n * 8)).toList[t * 8 + 7]? = some (.int .u64 0) := by
  simp only [madeCells, Array.toList_map, Array.toList_range, List.getElem?_map]
  rw [List.getElem?_range (by omega)]
  simp only [Option.map_some, hz, show (t * 8 + 7) % 8 = 7 by omega]
  rw [Array.getElem!_eq_getD, Array.getD_eq_getD_getElem?, h7]; rfl
set_option maxRecDepth 100000 in
set_option maxHeartbeats 1000000 in
theorem divide_call (w : World) (A : List (List Nat)) (q k m s : Nat) (a : Option Addr) (c : Nat) (hok : Ok A m) (hk : k < m) (hs : s < 2 ^ A.length) (hq : q < w.heap.size) (e0 : w.cell? ⟨q, 0, none⟩ = some (.slice a A.length c)) (ha : ValRows w (.slice a A.length c) A) (hG : G w) (hT : GT w) :
    Calls Tryz.prog 65 #[.pointer (some ⟨q, 0, none⟩), .int .u64 s, .int .i64 k] w (DivPost A k s w) := by
  have HA := Lib.hid ha; have HG := Lib.hid hG; have HT := Lib.hid hT
  have hs2 : s < 4096 := Nat.lt_of_lt_of_le hs (Nat.pow_le_pow_right (by omega) hok.len : 2 ^ A.length ≤ 2 ^ 12)
  have hps : ∀ p ∈ bitsOf s, p < A.length := by
    intro p hp
    simp only [bitsOf, List.mem_filter] at hp
    exact Nat.lt_of_not_le fun hle => by
      have h2 : s.testBit p = false := Nat.testBit_lt_two_pow (Nat.lt_of_lt_of_le hs (Nat.pow_le_pow_right (by omega) hle))
      rw [h2] at hp; simp at hp
  have hI := gfold_inv hok.row hk (bitsOf s) hps
  have HI := Lib.hid hI; have HPS := Lib.hid hps; have HOK := Lib.hid hok; have HS2 := Lib.hid hs2
  have hlen := bits_len s
  have HLEN := Lib.hid hlen
  clear ha hG hT hs hs2 hps hI hok hlen
  go_enter Tryz.func65, Tryz.ntmps65
  go_wp2_with fail
  go_region_held3 (fun w' => w.heap.size ≤ w'.heap.size ∧ ∀ b o, b < w.heap.size → w'.cell? ⟨b, o, none⟩ = w.cell? ⟨b, o, none⟩) (first | with_reducible exact ks (Below.refl _ _) | exact ks (by repeat (first | with_reducible exact Below.refl _ _ | with_reducible assumption | with_reducible refine Below.drew ?_ | with_reducible refine Below.alloc ?_ (by first | omega | (simp; done) | (simp; omega)) _ | with_reducible refine Below.setCell ?_ (by first | omega | (simp; done) | (simp; omega)) _))) (first | (go_at_call 88; refine (members_call s HS2.out _ (HT.out.of (by assumption))).mono ?_; rintro e w3 ⟨v3, rfl, hown3, hb3'⟩; have hb3 : Below w.heap.size w w3 := Below.trans (by repeat (first | with_reducible exact Below.refl _ _ | with_reducible assumption | with_reducible refine Below.drew ?_ | with_reducible refine Below.alloc ?_ (by first | omega | (simp; done) | (simp; omega)) _ | with_reducible refine Below.setCell ?_ (by first | omega | (simp; done) | (simp; omega)) _)) (hb3'.mono (by first | omega | (simp; done) | (simp; omega))); have hz3 := hb3.size; clear hb3') | (go_at_call 52; refine (groups_call _ _ _ A (bitsOf s) k m (HA.out.kp (by assumption)) ((own_ints hown3 (by have := HLEN.out; simp [pInts]; omega) (by intro x hx; simp only [pInts, List.mem_map] at hx; obtain ⟨p, hp, rfl⟩ := hx; have := bits_lt hp; omega)).mono (by repeat (first | with_reducible exact Below.refl _ _ | with_reducible assumption | with_reducible refine Below.drew ?_ | with_reducible refine Below.alloc ?_ (by first | omega | (simp; done) | (simp; omega)) _ | with_reducible refine Below.setCell ?_ (by first | omega | (simp; done) | (simp; omega)) _))) (HG.out.of (by assumption)) (fun l hl => (HOK.out.row l hl).1) hk HPS.out (by have := HLEN.out; omega)).mono ?_; rintro e w4 ⟨v4, o4, zs, rfl, hv4, hz4, ho4, hb4'⟩; have hb4 : Below w.heap.size w w4 := Below.trans (by repeat (first | with_reducible exact Below.refl _ _ | with_reducible assumption | with_reducible refine Below.drew ?_ | with_reducible refine Below.alloc ?_ (by first | omega | (simp; done) | (simp; omega)) _ | with_reducible refine Below.setCell ?_ (by first | omega | (simp; done) | (simp; omega)) _)) (hb4'.mono (by first | omega | (simp; done) | (simp; omega)))))
  obtain ⟨xs, hxs⟩ : ∃ xs, xs = (gfold A k (bitsOf s)).1 := ⟨_, rfl⟩
  obtain ⟨ls, hls⟩ : ∃ ls, ls = (gfold A k (bitsOf s)).2 := ⟨_, rfl⟩
  have hI2 := HI.out
  have hz5 : zs.length = xs.length := by rw [hxs, ← hz4]; simp
  have hxl : xs.length ≤ 12 := by have := hI2.most; have := HLEN.out; rw [hxs]; omega
  have hll : ls.length = xs.length := by rw [hxs, hls]; exact hI2.len
  have hin : ∀ l ∈ ls, l.length ≤ 12 ∧ ∀ x ∈ l, 0 ≤ x ∧ x < 12 := fun l hl => by
    rw [hls] at hl
    have h1 := hI2.inner l hl; have h2 := HLEN.out; have h3 := HOK.out.len
    exact ⟨by omega, fun x hx => by have := h1.2 x hx; omega⟩
  have hV : Vals w4 v4 xs := by
    have := own_vals hv4 (by omega) (by intro z hz; exact hI2.small z.1 (by rw [← hz4]; exact List.mem_map_of_mem hz))
    rwa [hz4, ← hxs] at this
  have hL : IntRows w4 o4 ls := (by rw [← hls] at ho4; exact ho4.rows (by omega) (fun l hl => by have := hin l hl; exact ⟨by omega, fun x hx => by have := this.2 x hx; omega⟩))
  have hxs10 : ∀ x ∈ xs, x ≤ 10 := by rw [hxs]; exact hI2.small
  have HV := Lib.hid hV; have HL := Lib.hid hL; have HXS := Lib.hid hxs; have HLS := Lib.hid hls; have HIN := Lib.hid hin; have HX10 := Lib.hid hxs10
  obtain ⟨va4, vc4, rfl, hvc4⟩ := hV.1.open
  obtain ⟨oa4, oc4, rfl, hoc4⟩ := hL.1.open
  clear hV hL hxs hls hin hI2 hv4 ho4 hz4 hz5 hown3 hxs10
  have HB4 := Lib.hid hb4
  clear hb4 hb4' hb3 hz3
  obtain ⟨i0, hi, hz0, hz1, hz2⟩ := info_parts info_group
  have Hi := Lib.hid hi; have Hz0 := Lib.hid hz0; have Hz1 := Lib.hid hz1; have Hz2 := Lib.hid hz2
  clear hi hz0 hz1 hz2
  have hgl : (gfold A k (bitsOf s)).1.length = xs.length := by rw [HXS.out]
  go_wp2_with (at_make; refine wpList_make_full _ rfl _ _ 97 rfl w4.heap.size 100 i0 _ 8 und_groups Hi.out Hz0.out Hz1.out _ _ _ _ xs.length rfl rfl rfl rfl (by rw [Hz2.out]; omega) (by unfold maxLen; omega) (Nat.le_refl _) ?_; intro w5 hown hgr)
  have hb0 : Below w4.heap.size w4 w5 := (Below.refl _ _).grown hgr (Nat.le_refl _) (by simp)
  have hD0 : DSt w4 w5 w4.heap.size xs.length xs (fun _ => 0) 0 := ⟨hb0, ⟨_, hown⟩, fun t ht => by omega, fun t ht => by rw [hown.cellAt _ (by omega)]; exact made8 _ _ _ rfl rfl ht⟩
  have HD0 := Lib.hid hD0
  clear hD0 hown hgr hb0
  go_loopw [10, 11, 13, 30] (fun _ _ _ i wr => ∃ j : Nat, j ≤ xs.length ∧ i = .int .i64 j ∧ DSt w4 wr w4.heap.size xs.length xs (fun t => if t < j then mask (ls.getD t []) else 0) j) (fun _ _ _ i _ => xs.length - (intOf i).toNat)
  case atStart => exact ⟨0, by omega, rfl, by simpa using HD0.out⟩
  case round =>
    obtain ⟨j, hj, rfl, hD⟩ := hrel
    have HD := Lib.hid hD
    by_cases hlt : j < xs.length
    · have h1 : (j:Int) < xs.length := by omega
      have h2 : 0 ≤ (j:Int) := by omega
      obtain ⟨b1, o1, rfl, g1, ra, rc, p0', p1⟩ := HL.out.1.at (show j < ls.length by omega)
      have p0 := (olds hD.1 _ _ g1).trans p0'
      clear p0'
      obtain ⟨b2, o2, rfl, g2, c3, d3, r0, r1, r2, r3, r4, r5, r6⟩ := (HV.out.mono hD.1).1.at hlt
      obtain ⟨y0, s0⟩ := hD.cell (j * 8) (by omega)
      obtain ⟨y1, s1⟩ := hD.cell (j * 8 + 1) (by omega)
      obtain ⟨y2, s2⟩ := hD.cell (j * 8 + 2) (by omega)
      obtain ⟨y3, s3⟩ := hD.cell (j * 8 + 3) (by omega)
      obtain ⟨y4, s4⟩ := hD.cell (j * 8 + 4) (by omega)
      obtain ⟨y5, s5⟩ := hD.cell (j * 8 + 5) (by omega)
      obtain ⟨y6, s6⟩ := hD.cell (j * 8 + 6) (by omega)
      have f0 := hD.frozen
      have HP1 := Lib.hid p1
      simp only [Nat.mul_one] at p0
      generalize hgx : xs.getD j 0 = x at *
      generalize hgl : ls.getD j [] = l at *
      have HGX := Lib.hid hgx; have HGL := Lib.hid hgl
      have hjl : (j:Int) < ls.length := by omega
      clear hD p1 hgx hgl
      have HX0 := Lib.hid (show ∃ W, W = (((((((wr.setCell ⟨w4.heap.size, j * 8, none⟩ (.int .i64 (kd x))).setCell ⟨w4.heap.size, j * 8 + 1, none⟩ (.string (st x))).setCell ⟨w4.heap.size, j * 8 + 2, none⟩ (.int .i64 (dn x))).setCell ⟨w4.heap.size, j * 8 + 3, none⟩ (.int .i64 0)).setCell ⟨w4.heap.size, j * 8 + 4, none⟩ (.int .i64 (nn x))).setCell ⟨w4.heap.size, j * 8 + 5, none⟩ (.slice c3 0 d3)).setCell ⟨w4.heap.size, j * 8 + 6, none⟩ (.slice none 0 0)) from ⟨_, rfl⟩)
      go_wp2
      obtain ⟨W, hW⟩ := HX0.out
      have hDW : DSt w4 W w4.heap.size xs.length xs (fun t => if t < j then mask (ls.getD t []) else 0) (j + 1) := by
        have h7 := ((((((HD.out.set (o := j * 8) (u := .int .i64 (kd x)) (by omega) (by omega) (Nat.le_refl _)).set (o := j * 8 + 1) (u := .string (st x)) (by omega) (by omega) (Nat.le_refl _)).set (o := j * 8 + 2) (u := .int .i64 (dn x)) (by omega) (by omega) (Nat.le_refl _)).set (o := j * 8 + 3) (u := .int .i64 0) (by omega) (by omega) (Nat.le_refl _)).set (o := j * 8 + 4) (u := .int .i64 (nn x)) (by omega) (by omega) (Nat.le_refl _)).set (o := j * 8 + 5) (u := .slice c3 0 d3) (by omega) (by omega) (Nat.le_refl _)).set (o := j * 8 + 6) (u := .slice none 0 0) (by omega) (by omega) (Nat.le_refl _)
        rw [← hW] at h7
        refine ⟨h7.1, h7.2.1, fun t ht => ?_, h7.2.2.2⟩
        by_cases htj : t < j
        · exact h7.2.2.1 t htj
        · obtain rfl : t = j := by omega
          rw [HGX.out, hW]
          exact ⟨c3, d3, by go_simp, by go_simp, by go_simp, by go_simp, by go_simp, by go_simp, by go_simp⟩
      have HDW := Lib.hid hDW
      rw [← hW]
      clear hW hDW s0 s1 s2 s3 s4 s5 s6 HX0 r0 r1 r2 r3 r4 r5 r6 f0 p0
      go_loopw [13, 45] (fun _ i wi => ∃ n : Nat, n ≤ l.length ∧ i = .int .i64 n ∧ DSt w4 wi w4.heap.size xs.length xs (fun t => if t = j then mask (l.take n) else if t < j then mask (ls.getD t []) else 0) (j + 1)) (fun _ i _ => l.length - (intOf i).toNat)
      case atStart => exact ⟨0, by omega, rfl, by
        have e : (fun t => if t = j then mask (l.take 0) else if t < j then mask (ls.getD t []) else 0) = (fun t => if t < j then mask (ls.getD t []) else 0) := by
          funext t
          by_cases h : t = j
          · subst h; simp [mask]
          · simp [h]
        rw [e]; exact HDW.out⟩
      case round =>
        obtain ⟨n, hn, rfl, hE⟩ := hrel
        have HE := Lib.hid hE
        by_cases hlt2 : n < l.length
        · have k1 : (n:Int) < l.length := by omega
          have k2 : 0 ≤ (n:Int) := by omega
          obtain ⟨b3, o3, rfl, g3, p3⟩ := (HP1.out.mono hE.1).1.at hlt2
          simp only [Nat.mul_one] at p3
          have c0 := hE.2.2.2 j hlt
          simp only [↓reduceIte] at c0
          have f0 := hE.frozen
          have hpi := (HIN.out l (by rw [← HGL.out, List.getD_eq_getElem?_getD, List.getElem?_eq_getElem (by omega)]; exact List.getElem_mem _)).2 (l.getD n 0) (by rw [List.getD_eq_getElem?_getD, List.getElem?_eq_getElem hlt2]; exact List.getElem_mem _)
          obtain ⟨p, hp⟩ : ∃ p : Nat, l.getD n 0 = (p : Int) := ⟨(l.getD n 0).toNat, by omega⟩
          rw [hp] at p3 hpi
          have hp12 : p < 12 := by omega
          have hp0 : 0 ≤ (p : Int) := by omega
          have HP := Lib.hid hp
          have hgz := hE.1.size
          have hl12 : l.length ≤ 12 := (HIN.out l (by rw [← HGL.out, List.getD_eq_getElem?_getD, List.getElem?_eq_getElem (by omega)]; exact List.getElem_mem _)).1
          clear hE hp
          go_wp2_with fail
          go_region_with fail
          go_wp2
          go_roundw
          case rel =>
            refine ⟨n + 1, by omega, by go_num, ?_⟩
            have hm : mask (l.take n) < 4096 := mask_lt _ (fun x hx => (HIN.out l (by rw [← HGL.out, List.getD_eq_getElem?_getD, List.getElem?_eq_getElem (by omega)]; exact List.getElem_mem _)).2 x (List.mem_of_mem_take hx))
            have hp2 : 2 ^ p < 4096 := Nat.pow_lt_pow_right (n := 12) (by omega) hp12
            have e1 : IntKind.u64.wrap ((2:Int) ^ p) = ((2 ^ p : Nat) : Int) := by
              have e0 : ((2:Int) ^ p) = ((2 ^ p : Nat) : Int) := by push_cast; rfl
              rw [e0]
              generalize 2 ^ p = t at hp2
              rw [IntKind.wrap_u64]; omega
            have e2 : mask (l.take (n + 1)) = mask (l.take n) ||| 2 ^ p := by
              have e3 : l[n] = (p : Int) := by have := HP.out; rw [List.getD_eq_getElem?_getD, List.getElem?_eq_getElem hlt2] at this; exact this
              rw [List.take_succ_eq_append_getElem hlt2, mask_snoc, e3, Int.toNat_natCast]
            have hb := HE.out.bit (t0 := j) (v := mask (l.take n) ||| 2 ^ p) (by omega) (Nat.le_refl _)
            rw [e1, bits_or_u64_nat _ _ (by omega) (by omega), e2]
            obtain ⟨q1, ⟨ys, q2⟩, q3, q4⟩ := hb
            refine ⟨q1.drew, ⟨ys, own_below q2 (Below.refl _ _).drew⟩, q3, fun t ht => (q4 t ht).trans ?_⟩
            by_cases h : t = j
            · subst h; simp only [if_pos]
            · simp only [if_neg h]
          case measure => simp [intOf]; omega
        · go_wp2
          go_roundw
          case rel =>
            refine ⟨j + 1, by omega, by go_num, ?_⟩
            obtain rfl : n = l.length := by omega
            have hE := HE.out
            rw [List.take_length] at hE
            have e : (fun t => if t = j then mask l else if t < j then mask (ls.getD t []) else 0) = (fun t => if t < j + 1 then mask (ls.getD t []) else 0) := by
              funext t
              by_cases h : t = j
              · subst h; rw [if_pos rfl, if_pos (by omega), HGL.out]
              · by_cases h2 : t < j
                · rw [if_neg h, if_pos h2, if_pos (by omega)]
                · rw [if_neg h, if_neg h2, if_neg (by omega)]
            rw [e] at hE
            exact hE
          case measure => simp [intOf]; omega
    · go_wp2
      go_ret
      obtain rfl : j = xs.length := by omega
      have hD := HD.out
      have hlen : (divS A k s).length = xs.length := by simp [divS, HXS.out, ← HLS.out, hll]
      have hg0 : w4.heap.size < wr.heap.size ∨ xs.length = 0 := by
        by_cases h : xs.length = 0
        · exact .inr h
        · obtain ⟨ys, q2⟩ := hD.2.1
          exact .inl ((q2.lt w4.heap.size rfl).2)
      refine ⟨w4.heap.size, xs.length, by rw [hlen]; rfl, ⟨⟨_, xs.length, rfl, by omega, fun h0 => ⟨_, 0, rfl, by omega, fun t ht => ?_⟩⟩, by omega, ?_⟩, bthen HB4.out hD.1, HB4.out.size⟩
      · have ht2 : t < xs.length := by omega
        have e1 : ((divS A k s).getD t (0, 0)) = (xs.getD t 0, mask (ls.getD t [])) := by
          have h3 : t < ls.length := by omega
          have h4 : t < (divS A k s).length := by omega
          rw [List.getD_eq_getElem?_getD, List.getD_eq_getElem?_getD, List.getD_eq_getElem?_getD, List.getElem?_eq_getElem h4, List.getElem?_eq_getElem ht2, List.getElem?_eq_getElem h3]
          simp [divS, ← HXS.out, ← HLS.out]
        dsimp only
        rw [e1, Nat.zero_add]
        refine ⟨hD.2.2.1 t ht2, ?_⟩
        have := hD.2.2.2 t ht2
        simp only [ht2, ↓reduceIte] at this
        exact this
      · intro g hg
        simp only [divS, ← HXS.out, ← HLS.out] at hg
        have h1 := (List.of_mem_zip hg).1
        have h2 := (List.of_mem_zip hg).2
        refine ⟨HX10.out _ h1, ?_⟩
        simp only [List.mem_map] at h2
        obtain ⟨l, hl, h2⟩ := h2
        rw [← h2]
        exact mask_lt _ (HIN.out l hl).2
end Go.Proofs.YtoiemkifgdnhaaaGreatDoor
namespace Go.Proofs.YtoiemkifgdnhaaaGreatDoor
open Go Go.RowKit Go.MapKept
section
variable {P : Program}
def upd : List (Int × Value) → Int → Value → List (Int × Value)
  | [], n, v => [(n, v)]
  | p :: l, n, v => if p.1 = n then (n, v) :: l else p :: upd l n v
theorem lk_upd (l : List (Int × Value)) (n n' : Int) (v : Value) : lk (upd l n v) n' = if n' = n then some v else lk l n' := by
  induction l with
  | nil => unfold upd lk; by_cases h : n' = n
           · subst h; simp
           · have : (n == n') = false := by simp; exact fun e => h e.symm
             simp [this, h]
  | cons p l ih =>
    unfold upd
    by_cases hp : p.1 = n
    · rw [if_pos hp]; unfold lk
      by_cases h : n' = n
      · subst h; simp
      · have h1 : (n == n') = false := by simp; exact fun e => h e.symm
        have h2 : (p.1 == n') = false := by rw [hp]; exact h1
        simp [List.find?_cons, h1, h2, h]
    · rw [if_neg hp]
      by_cases h2 : p.1 = n'
      · have h : n' ≠ n := fun e => hp (h2.trans e)
        rw [if_neg h]; unfold lk; simp [List.find?_cons, h2]
      · have h3 : (p.1 == n') = false := by simpa using h2
        have e1 : lk (p :: upd l n v) n' = lk (upd l n v) n' := by unfold lk; simp [List.find?_cons, h3]
        have e2 : lk (p :: l) n' = lk l n' := by unfold lk; simp [List.find?_cons, h3]
        rw [e1, e2, ih]
theorem findNow_upd (k : IntKind) (n : Int) (v : Value) : ∀ (es : List MapEntry) (l : List (Int × Value)) (i : Nat), es.map (fun e => (e.key, e.val)) = l.map (fun p => (.int k p.1, p.2)) →
    (Instr.findNow (.int k) (.int k n) es i = some none ∧ upd l n v = l ++ [(n, v)]) ∨ ∃ j e, Instr.findNow (.int k) (.int k n) es i = some (some (i + j, e.val)) ∧ es[j]? = some e ∧ e.key = .int k n ∧ upd l n v = l.set j (n, v)
  | [], [], i, _ => .inl ⟨rfl, rfl⟩
  | [], _ :: _, _, h => by simp at h
  | _ :: _, [], _, h => by simp at h
  | e :: es, p :: l, i, h => by
    simp only [List.map_cons, List.cons.injEq, Prod.mk.injEq] at h
    obtain ⟨⟨h1, h2⟩, h3⟩ := h
    by_cases hp : p.1 = n
    · exact .inr ⟨0, e, by simp [Instr.findNow, h1, Instr.sameNow, hp], rfl, by rw [h1, hp], by simp [upd, hp]⟩
    · have hb : (n == p.1) = false := by simp; exact Ne.symm hp
      rcases findNow_upd k n v es l (i + 1) h3 with ⟨h4, h5⟩ | ⟨j, e', h4, h5, h6, h7⟩
      · exact .inl ⟨by simp [Instr.findNow, h1, Instr.sameNow, hb, h4], by simp [upd, hp, h5]⟩
      · exact .inr ⟨j + 1, e', by simp [Instr.findNow, h1, Instr.sameNow, hb, h4]; omega, by simpa using h5, h6, by simp [upd, hp, h7]⟩
theorem run_update (w : World) (T K E : TypeId) (k : IntKind) (n : Int) (v : Value) (r : Nat) (l : List (Int × Value)) (hT : P.underlying T = some (.map K E)) (hK : P.underlying K = some (.int k))
    (hm : MapAt w r k l) : ∃ w', (Instr.mapUpdate T (.map (some r)) (.int k n) v).run P w = .ok () w' ∧ MapAt w' r k (upd l n v) ∧ w.grownBy w' (some r) := by
  obtain ⟨es, c, hh, he⟩ := hm
  have hk : IsKey (.int k) (.int k n) := by simp [IsKey]
  have hgb : ∀ o, w.grownBy { w with heap := w.heap.setIfInBounds r o } (some r) := fun o => ⟨rfl, rfl, rfl, by simp, fun q _ hq => by
    show (w.heap.setIfInBounds r o)[q]? = _
    rw [Array.getElem?_setIfInBounds, if_neg (fun e => hq (by rw [e]))]⟩
  rcases findNow_upd k n v es.toList l 0 he with ⟨h1, h2⟩ | ⟨j, e, h1, h2, h3, h4⟩
  · refine ⟨_, ?_, ⟨_, _, (heap_set hh).1, ?_⟩, hgb (.map (es.push { key := .int k n, val := v, born := c }) (c + 1))⟩
    · simp [Instr.mapUpdate, run_underlying hT, Go.MapKept.run_getObj_map hh, run_checkKey hK hk, run_findKey hK h1, Go.MapKept.run_setObj_map _ hh, Result.andThen]
    · simp [he, h2]
  · have hj : es[j]? = some e := by simpa using h2
    refine ⟨_, ?_, ⟨_, _, (heap_set hh).1, ?_⟩, hgb (.map (es.modify j fun e => { e with key := .int k n, val := v }) c)⟩
    · simp [Instr.mapUpdate, run_underlying hT, Go.MapKept.run_getObj_map hh, run_checkKey hK hk, run_findKey hK h1, hj, h3, run_keyThatStays hk, Go.MapKept.run_setObj_map _ hh, Result.andThen]
    · rw [h4]
      apply List.ext_getElem?
      intro i
      simp only [List.getElem?_map, Array.getElem?_toList, Array.getElem?_modify, List.getElem?_set]
      have hei : (es[i]?).map (fun e => (e.key, e.val)) = (l[i]?).map fun p => (Value.int k p.1, p.2) := by
        have := congrArg (fun z => z[i]?) he
        simpa using this
      by_cases hij : j = i
      · subst hij
        have hlt : j < l.length := by
          rw [hj] at hei
          cases hl : l[j]? with
          | none => rw [hl] at hei; simp at hei
          | some _ => exact (List.getElem?_eq_some_iff.1 hl).1
        simp [hj, hlt]
      · simp [hij, hei]
theorem wpList_update {w : World} {ops : Array Oper} {rest : List Oper} {o : Oper} {a : Act} {Q : Exit → Act → World → Prop} (hgd : o.guard = none) (T : TypeId) (m kk x : Operand)
    (ho : o.op = .mapUpdate T m kk x) (hd : o.dst = none) (K E : TypeId) (k : IntKind) (n : Int) (v : Value) (r : Nat) (l : List (Int × Value)) (hT : P.underlying T = some (.map K E)) (hK : P.underlying K = some (.int k))
    (hm : MapAt w r k l) (h1 : a.eval m = .map (some r)) (h2 : a.eval kk = .int k n) (h3 : a.eval x = v)
    (h : ∀ w', MapAt w' r k (upd l n v) → w.grownBy w' (some r) → wpList P ops Q rest a w') : wpList P ops Q (o :: rest) a w := by
  refine wpList_plain hgd fun Kk hK' => ?_
  obtain ⟨w', hrun, q1, q2⟩ := run_update (P := P) w T K E k n v r l hT hK hm
  unfold Oper.wp
  simp [execOp, ho, h1, h2, h3, hrun, Result.andThen, hd, Act.put]
  refine hK' _ _ ?_
  rw [show a.put o.dst undef = a by rw [hd]; rfl]
  exact h w' q1 q2
end
/-- Writing a map turns no cell. -/
theorem kp_of_map {w w' : World} {r : Nat} {k : IntKind} {l l' : List (Int × Value)} (hg : w.grownBy w' (some r)) (hm : MapAt w r k l) (hm' : MapAt w' r k l') : Kp w w' := by
  refine ⟨hg.size, fun b o hb => ?_⟩
  by_cases h : b = r
  · subst h
    obtain ⟨es, c, h1, _⟩ := hm
    obtain ⟨es', c', h2, _⟩ := hm'
    simp [World.cell?, h1, h2]
  · exact World.cell?_of_block (hg.block b hb (by simpa using h))
theorem grown_trans {a b c : World} {r : Option Nat} (h : a.grownBy b r) (k : b.grownBy c r) : a.grownBy c r :=
  ⟨k.os.trans h.os, k.tape.trans h.tape, k.output.trans h.output, Nat.le_trans h.size k.size, fun q hq hne => (k.block q (Nat.lt_of_lt_of_le hq h.size) hne).trans (h.block q hq hne)⟩
theorem MapAt.of {w w' : World} {r : Nat} {k : IntKind} {l : List (Int × Value)} (h : MapAt w r k l) (hb : Below w.heap.size w w') : MapAt w' r k l := by
  obtain ⟨es, c, h1, h2⟩ := h
  exact ⟨es, c, by rw [hb.block r (Array.getElem?_eq_some_iff.1 h1).1]; exact h1, h2⟩
theorem MapAt.lt {w : World} {r : Nat} {k : IntKind} {l : List (Int × Value)} (h : MapAt w r k l) : r < w.heap.size := by
  obtain ⟨es, c, h1, h2⟩ := h
  exact (Array.getElem?_eq_some_iff.1 h1).1
theorem grown_of_below {w w' : World} {r : Option Nat} (h : Below w.heap.size w w') : w.grownBy w' r := ⟨h.os, h.tape, h.output, h.size, fun q hq _ => h.block q hq⟩
end Go.Proofs.YtoiemkifgdnhaaaGreatDoor
namespace Go.Proofs.YtoiemkifgdnhaaaGreatDoor
open Go Go.RowKit
/-- The programs of a list that have a value. -/
def sel (A : List (List Nat)) (k : Nat) (ps : List Nat) (v : Nat) : List Nat := ps.filter fun p => gval A k p == v
/-- The groups are, for each value that occurs, in order, the programs that have it. -/
structure GLaw (A : List (List Nat)) (k : Nat) (ps : List Nat) (s : List Nat × List (List Int)) : Prop where
  sorted : s.1.Pairwise (· < ·)
  lists : s.2 = s.1.map fun v => pInts (sel A k ps v)
  vals : ∀ v, v ∈ s.1 ↔ ∃ p ∈ ps, gval A k p = v
theorem sel_snoc (A : List (List Nat)) (k : Nat) (ps : List Nat) (p v : Nat) : sel A k (ps ++ [p]) v = sel A k ps v ++ (if gval A k p = v then [p] else []) := by
  unfold sel
  rw [List.filter_append]
  by_cases h : gval A k p = v <;> simp [h]
theorem GLaw.step {A : List (List Nat)} {k p : Nat} {ps : List Nat} {s : List Nat × List (List Int)} (h : GLaw A k ps s) : GLaw A k (ps ++ [p]) (gstep A k s p) := by
  have hlen : s.2.length = s.1.length := by rw [h.lists, List.length_map]
  unfold gstep
  by_cases hm : gval A k p ∈ s.1
  · rw [if_pos hm]
    obtain ⟨hlt, hget⟩ := posOf_mem h.sorted hm
    refine ⟨h.sorted, ?_, fun v => ?_⟩
    · simp only
      apply List.ext_getElem?
      intro i
      rw [List.getElem?_set]
      by_cases hi : posOf s.1 (gval A k p) = i
      · rw [if_pos hi, if_pos (by omega)]
        subst hi
        have h1 : s.1[posOf s.1 (gval A k p)]? = some (gval A k p) := by
          rw [List.getElem?_eq_getElem hlt]; rw [List.getD_eq_getElem?_getD, List.getElem?_eq_getElem hlt] at hget; simpa using hget
        rw [List.getElem?_map, h1]
        rw [List.getD_eq_getElem?_getD, h.lists, List.getElem?_map, h1]
        simp [sel_snoc, pInts]
      · rw [if_neg hi, h.lists, List.getElem?_map, List.getElem?_map]
        cases hv : s.1[i]? with
        | none => rfl
        | some v =>
          have hne : gval A k p ≠ v := by
            intro e
            have hil := (List.getElem?_eq_some_iff.1 hv).1
            have e1 : s.1.getD i 0 = v := by rw [List.getD_eq_getElem?_getD, hv]; rfl
            rcases Nat.lt_trichotomy i (posOf s.1 (gval A k p)) with h2 | h2 | h2
            · have := sorted_lt h.sorted h2 hlt; omega
            · exact hi h2.symm
            · have := sorted_lt h.sorted h2 hil; omega
          simp [sel_snoc, hne]
    · simp only [h.vals v, List.mem_append, List.mem_singleton]
      constructor
      · rintro ⟨q, hq, e⟩; exact ⟨q, .inl hq, e⟩
      · rintro ⟨q, hq | rfl, e⟩
        · exact ⟨q, hq, e⟩
        · rw [← e]; exact (h.vals _).1 hm
  · rw [if_neg hm]
    refine ⟨insAt_sorted h.sorted hm, ?_, fun v => ?_⟩
    · simp only
      rw [map_insAt, h.lists]
      have h1 : s.1.map (fun v => pInts (sel A k (ps ++ [p]) v)) = s.1.map (fun v => pInts (sel A k ps v)) := by
        apply List.map_congr_left
        intro v hv
        have hne : gval A k p ≠ v := fun e => hm (by rw [e]; exact hv)
        simp [sel_snoc, hne]
      have h2 : pInts (sel A k (ps ++ [p]) (gval A k p)) = [(p : Int)] := by
        have : sel A k ps (gval A k p) = [] := by
          unfold sel; rw [List.filter_eq_nil_iff]
          intro q hq e
          exact hm ((h.vals _).2 ⟨q, hq, by simpa using e⟩)
        simp [sel_snoc, this, pInts]
      rw [h1, h2]
    · simp only [List.mem_append, List.mem_singleton]
      constructor
      · intro hv
        rcases mem_insAt hv with rfl | hv
        · exact ⟨p, .inr rfl, rfl⟩
        · obtain ⟨q, hq, e⟩ := (h.vals v).1 hv
          exact ⟨q, .inl hq, e⟩
      · rintro ⟨q, hq | rfl, e⟩
        · have := (h.vals v).2 ⟨q, hq, e⟩
          unfold insAt
          rw [← List.take_append_drop (posOf s.1 (gval A k p)) s.1] at this
          simp only [List.mem_append, List.mem_cons] at this ⊢
          rcases this with h | h
          · exact .inl h
          · exact .inr (.inr h)
        · unfold insAt; rw [e]; simp
theorem gfold_law (A : List (List Nat)) (k : Nat) (ps : List Nat) : GLaw A k ps (gfold A k ps) := by
  have h : ∀ n, n ≤ ps.length → GLaw A k (ps.take n) (gfold A k (ps.take n)) := by
    intro n
    induction n with
    | zero => intro _; exact ⟨by simp [gfold], by simp [gfold], by simp [gfold]⟩
    | succ n ih =>
      intro hn
      rw [List.take_succ_eq_append_getElem (by omega), gfold_snoc]
      exact (ih (by omega)).step
  have := h ps.length (Nat.le_refl _)
  rwa [List.take_length] at this
theorem mask_bits (l : List Nat) (i : Nat) : (mask (pInts l)).testBit i = decide (i ∈ l) := by
  have h : ∀ (l : List Nat) (m : Nat), ((pInts l).foldl (fun m p => m ||| 2 ^ p.toNat) m).testBit i = (m.testBit i || decide (i ∈ l)) := by
    intro l
    induction l with
    | nil => intro m; simp [pInts]
    | cons x l ih =>
      intro m
      have e : pInts (x :: l) = (x : Int) :: pInts l := rfl
      rw [e, List.foldl_cons, ih, Int.toNat_natCast, Nat.testBit_or, Nat.testBit_two_pow]
      by_cases hx : i = x
      · subst hx; simp
      · have : ¬ x = i := fun e => hx e.symm
        simp [hx, this]
  have := h l 0
  simpa [mask] using this
theorem bits_mask (s : Nat) (q : Nat → Bool) : bitsOf (mask (pInts ((bitsOf s).filter q))) = (bitsOf s).filter q := by
  unfold bitsOf
  rw [List.filter_filter]
  apply List.filter_congr
  intro p hp
  rw [mask_bits]
  rw [Bool.eq_iff_iff]
  simp only [decide_eq_true_eq, List.mem_filter, Bool.and_eq_true]
  exact ⟨fun h => h.2, fun h => ⟨hp, h⟩⟩
theorem mask_lt_pow (l : List Nat) (n : Nat) (h : ∀ x ∈ l, x < n) : mask (pInts l) < 2 ^ n := by
  apply Nat.lt_pow_two_of_testBit
  intro i hi
  rw [mask_bits, decide_eq_false_iff_not]
  intro hm; have := h i hm; omega
theorem bits_lt_pow {s n p : Nat} (hs : s < 2 ^ n) (hp : p ∈ bitsOf s) : p < n := by
  simp only [bitsOf, List.mem_filter] at hp
  exact Nat.lt_of_not_le fun hle => by
    have h2 : s.testBit p = false := Nat.testBit_lt_two_pow (Nat.lt_of_lt_of_le hs (Nat.pow_le_pow_right (by omega) hle))
    rw [h2] at hp; simp at hp
/-- The values that occur. -/
def valsOf (A : List (List Nat)) (k s : Nat) : List Nat := (gfold A k (bitsOf s)).1
theorem divS_eq (A : List (List Nat)) (k s : Nat) : divS A k s = (valsOf A k s).map fun v => (v, mask (pInts (sel A k (bitsOf s) v))) := by
  unfold divS valsOf
  rw [(gfold_law A k (bitsOf s)).lists, List.map_map]
  generalize (gfold A k (bitsOf s)).1 = l
  induction l with
  | nil => rfl
  | cons x l ih => simp only [List.map_cons, List.zip_cons_cons, ih]; rfl
/-- Each group of a division into two at least has fewer programs. -/
theorem card_lt {A : List (List Nat)} {k s : Nat} {g : Nat × Nat} (hg : g ∈ divS A k s) (h2 : 2 ≤ (divS A k s).length) : (bitsOf g.2).length < (bitsOf s).length := by
  rw [divS_eq] at hg h2
  simp only [List.mem_map, List.length_map] at hg h2
  obtain ⟨v, hv, rfl⟩ := hg
  have L := gfold_law A k (bitsOf s)
  unfold sel
  rw [bits_mask]
  obtain ⟨v', hv', hne⟩ : ∃ v' ∈ valsOf A k s, v' ≠ v := by
    unfold valsOf at h2 ⊢
    have hs := L.sorted
    match hl : (gfold A k (bitsOf s)).1, h2, hs with
    | [], h2, _ => simp at h2
    | [_], h2, _ => simp at h2
    | a :: b :: r, _, hs =>
      have hab : a < b := by simp at hs; exact hs.1.1
      by_cases h : a = v
      · exact ⟨b, by simp, by omega⟩
      · exact ⟨a, by simp, h⟩
  obtain ⟨p, hp, e⟩ := (L.vals v').1 hv'
  have hle := List.length_filter_le (fun p => gval A k p == v) (bitsOf s)
  refine Nat.lt_of_le_of_ne hle fun heq => ?_
  rw [List.length_filter_eq_length_iff] at heq
  have := heq p hp
  simp at this
  exact hne (e.symm.trans this)
theorem set_lt {A : List (List Nat)} {k s n : Nat} {g : Nat × Nat} (hs : s < 2 ^ n) (hg : g ∈ divS A k s) : g.2 < 2 ^ n := by
  rw [divS_eq] at hg
  simp only [List.mem_map] at hg
  obtain ⟨v, hv, rfl⟩ := hg
  exact mask_lt_pow _ _ fun x hx => bits_lt_pow hs ((List.mem_filter.1 hx).1)
/-- The depth with a first question; 0 if it divides nothing. -/
def aftF (d : Nat → Nat) (A : List (List Nat)) (k s : Nat) : Nat := if (divS A k s).length < 2 then 0 else ((divS A k s).foldl (fun a g => max a (d g.2)) 0) + 1
def lst (l d : Nat) : Nat := if 0 < d ∧ (l = 0 ∨ d < l) then d else l
def depF (A : List (List Nat)) (m : Nat) : Nat → Nat → Nat
  | 0, _ => 0
  | f + 1, s => (List.range m).foldl (fun l k => lst l (aftF (depF A m f) A k s)) 0
def dep (A : List (List Nat)) (m s : Nat) : Nat := depF A m 13 s
theorem foldl_same {α β : Type} {f g : β → α → β} : ∀ (l : List α) (b : β), (∀ b, ∀ a ∈ l, f b a = g b a) → l.foldl f b = l.foldl g b
  | [], _, _ => rfl
  | a :: l, b, h => by rw [List.foldl_cons, List.foldl_cons, h b a (by simp)]; exact foldl_same l _ fun b a ha => h b a (by simp [ha])
theorem aft_same {d d' : Nat → Nat} {A : List (List Nat)} {k s : Nat} (h : ∀ t, (bitsOf t).length < (bitsOf s).length → d t = d' t) : aftF d A k s = aftF d' A k s := by
  unfold aftF
  split
  · rfl
  · rename_i h2
    rw [foldl_same _ _ fun b g hg => by rw [h g.2 (card_lt hg (by omega))]]
theorem depF_stable (A : List (List Nat)) (m : Nat) : ∀ f s, (bitsOf s).length ≤ f → depF A m f s = depF A m (f + 1) s := by
  intro f
  induction f with
  | zero =>
    intro s hs
    have hb : bitsOf s = [] := List.eq_nil_of_length_eq_zero (by omega)
    have h0 : ∀ k, aftF (depF A m 0) A k s = 0 := by
      intro k
      have : divS A k s = [] := by unfold divS; rw [hb]; simp [gfold]
      simp [aftF, this]
    show 0 = (List.range m).foldl (fun l k => lst l (aftF (depF A m 0) A k s)) 0
    rw [foldl_same _ _ (g := fun l _ => l) fun b a _ => by rw [h0]; simp [lst]]
    generalize List.range m = l
    induction l with
    | nil => rfl
    | cons a l ih => exact ih
  | succ f ih =>
    intro s hs
    show (List.range m).foldl (fun l k => lst l (aftF (depF A m f) A k s)) 0 = (List.range m).foldl (fun l k => lst l (aftF (depF A m (f + 1)) A k s)) 0
    exact foldl_same _ _ fun b k _ => by rw [aft_same fun t ht => ih t (by omega)]
def aft (A : List (List Nat)) (m k s : Nat) : Nat := aftF (dep A m) A k s
theorem dep_eq (A : List (List Nat)) (m s : Nat) : dep A m s = (List.range m).foldl (fun l k => lst l (aft A m k s)) 0 := by
  have hs := bits_len s
  show (List.range m).foldl (fun l k => lst l (aftF (depF A m 12) A k s)) 0 = _
  exact foldl_same _ _ fun b k _ => by unfold aft; rw [aft_same (d' := dep A m) fun t ht => depF_stable A m 12 t (by omega)]
end Go.Proofs.YtoiemkifgdnhaaaGreatDoor
namespace Go.Proofs.YtoiemkifgdnhaaaGreatDoor
open Go Go.RowKit
def MemOk (w : World) (r : Nat) (A : List (List Nat)) (m : Nat) : Prop :=
  ∃ l, MapAt w r .u64 l ∧ ∀ n v, lk l n = some v → ∃ t : Nat, n = t ∧ t < 2 ^ A.length ∧ v = .int .i64 (dep A m t : Nat)
theorem MemOk.of {w w' : World} {r m : Nat} {A : List (List Nat)} (h : MemOk w r A m) (hb : Below w.heap.size w w') : MemOk w' r A m := by
  obtain ⟨l, h1, h2⟩ := h; exact ⟨l, h1.of hb, h2⟩
theorem MemOk.lt {w : World} {r m : Nat} {A : List (List Nat)} (h : MemOk w r A m) : r < w.heap.size := by
  obtain ⟨l, h1, h2⟩ := h; exact h1.lt
theorem MemOk.kp {w w' : World} {r m : Nat} {A : List (List Nat)} (h : MemOk w r A m) (hg : w.grownBy w' (some r)) (h' : MemOk w' r A m) : Kp w w' := by
  obtain ⟨l, h1, h2⟩ := h; obtain ⟨l', h1', h2'⟩ := h'; exact kp_of_map hg h1 h1'
/-- A planner at q with its map r. -/
structure PW (w0 w : World) (q r : Nat) (A : List (List Nat)) (m : Nat) : Prop where
  b : Below w0.heap.size w0 w
  hq : w0.heap.size ≤ q
  hr : w0.heap.size ≤ r
  lt : q < w.heap.size
  g : G w0
  gt : GT w0
  a : ∃ a c, w.cell? ⟨q, 0, none⟩ = some (.slice a A.length c) ∧ ValRows w0 (.slice a A.length c) A
  d : w.cell? ⟨q, 1, none⟩ = some (.map (some r))
  mem : MemOk w r A m
theorem PW.grown {w0 w w' : World} {q r m : Nat} {A : List (List Nat)} (h : PW w0 w q r A m) (hg : w.grownBy w' (some r)) (hm : MemOk w' r A m) : PW w0 w' q r A m := by
  have hk := h.mem.kp hg hm
  obtain ⟨a, c, h1, h2⟩ := h.a
  exact ⟨h.b.grown hg h.b.size (fun k hk => by cases hk; exact h.hr), h.hq, h.hr, Nat.lt_of_lt_of_le h.lt hk.1, h.g, h.gt, ⟨a, c, by rw [hk.2 _ _ h.lt]; exact h1, h2⟩, by rw [hk.2 _ _ h.lt]; exact h.d, hm⟩
theorem PW.below {w0 w w' : World} {q r m : Nat} {A : List (List Nat)} (h : PW w0 w q r A m) (hb : Below w.heap.size w w') : PW w0 w' q r A m := h.grown (grown_of_below hb) (h.mem.of hb)
def DepPost (A : List (List Nat)) (m s r : Nat) (w : World) (en : Ending) (w' : World) : Prop := en = .returned (.int .i64 (dep A m s : Nat)) ∧ w.grownBy w' (some r) ∧ MemOk w' r A m
def AftPost (A : List (List Nat)) (m k s r : Nat) (w : World) (en : Ending) (w' : World) : Prop := en = .returned (.int .i64 (aft A m k s : Nat)) ∧ w.grownBy w' (some r) ∧ MemOk w' r A m
theorem lst_le {l d n : Nat} (h1 : l ≤ n) (h2 : d ≤ n) : lst l d ≤ n := by unfold lst; split <;> omega
theorem max_le {gs : List (Nat × Nat)} {d : Nat → Nat} {n : Nat} (h : ∀ t, d t ≤ n) : ∀ a, a ≤ n → gs.foldl (fun a g => max a (d g.2)) a ≤ n := by
  induction gs with
  | nil => intro a ha; exact ha
  | cons g gs ih => intro a ha; exact ih _ (Nat.max_le.2 ⟨ha, h _⟩)
theorem depF_le (A : List (List Nat)) (m : Nat) : ∀ f s, depF A m f s ≤ f := by
  intro f
  induction f with
  | zero => intro s; exact Nat.le_refl _
  | succ f ih =>
    intro s
    have h : ∀ (l : List Nat) (b : Nat), b ≤ f + 1 → l.foldl (fun l k => lst l (aftF (depF A m f) A k s)) b ≤ f + 1 := by
      intro l
      induction l with
      | nil => intro b hb; exact hb
      | cons k l ih2 =>
        intro b hb
        refine ih2 _ (lst_le hb ?_)
        unfold aftF
        split
        · omega
        · have := max_le (gs := divS A k s) ih 0 (by omega); omega
    exact h _ 0 (by omega)
theorem dep_le (A : List (List Nat)) (m s : Nat) : dep A m s ≤ 13 := depF_le A m 13 s
set_option maxRecDepth 100000 in
set_option maxHeartbeats 1000000 in
theorem after_call (A : List (List Nat)) (m k s q r : Nat) (w0 w : World) (hok : Ok A m) (hk : k < m) (hs : s < 2 ^ A.length) (hP : PW w0 w q r A m)
    (hD : ∀ t w, t < 2 ^ A.length → (bitsOf t).length < (bitsOf s).length → PW w0 w q r A m → Calls Tryz.prog 36 #[.pointer (some ⟨q, 0, none⟩), .int .u64 t] w (DepPost A m t r w)) :
    Calls Tryz.prog 64 #[.pointer (some ⟨q, 0, none⟩), .int .u64 s, .int .i64 k] w (AftPost A m k s r w) := by
  have HP := Lib.hid hP; have HOK := Lib.hid hok; have HS := Lib.hid hs; have HD := Lib.hid hD
  obtain ⟨a, c, e0, ha⟩ := hP.a
  have HE := Lib.hid e0; have HA := Lib.hid ha
  clear hP hok hs hD e0 ha
  go_enter Tryz.func64, Tryz.ntmps64
  go_wp2_with (go_at_call 65; refine (divide_call _ A q k m s a c HOK.out hk HS.out HP.out.lt HE.out (HA.out.mono HP.out.b) (HP.out.g.mono HP.out.b) (HP.out.gt.mono HP.out.b)).mono ?_; rintro e w1 ⟨bd, cd, rfl, hgr, hb1, _⟩; have hgl := hgr.2.1)
  · have hlt : ((divS A k s).length : Int) < 2 := by assumption
    go_ret
    refine ⟨ret_int ?_, grown_of_below hb1, HP.out.mem.of hb1⟩
    have : (divS A k s).length < 2 := by omega
    simp [aft, aftF, this]
  · have hge : (2:Int) ≤ ((divS A k s).length : Int) := by assumption
    have hP1 := HP.out.below hb1
    have HP1 := Lib.hid hP1; have HGR := Lib.hid hgr; have HB1 := Lib.hid hb1
    generalize hgs : divS A k s = gs at *
    have HGS := Lib.hid hgs.symm
    clear hP1 hgr hb1 hgs
    go_loopw [8, 10, 20] (fun mo _ i wr => ∃ j : Nat, j ≤ gs.length ∧ i = .int .i64 j ∧ mo = .int .i64 ((gs.take j).foldl (fun a g => max a (dep A m g.2)) 0 : Nat) ∧ w1.grownBy wr (some r) ∧ MemOk wr r A m) (fun _ _ i _ => gs.length - (intOf i).toNat)
    case atStart => exact ⟨0, by omega, rfl, rfl, World.grownBy.refl _ _, HP1.out.mem⟩
    case round =>
      obtain ⟨j, hj, rfl, rfl, hg, hm⟩ := hrel
      have hP2 := HP1.out.grown hg hm
      have HP2 := Lib.hid hP2; have HG := Lib.hid hg
      by_cases hlt : j < gs.length
      · have h1 : (j:Int) < gs.length := by omega
        have h2 : 0 ≤ (j:Int) := by omega
        have hGR := HGR.out.kp (HP1.out.mem.kp hg hm)
        obtain ⟨b1, o1, hbo, g1, ⟨c1, d1, p0, p1, p2, p3, p4, p5, p6⟩, p7⟩ := hGR.1.at hlt
        simp only [Option.some.injEq, Addr.mk.injEq, and_true] at hbo
        obtain ⟨rfl, rfl⟩ := hbo
        have hgm : gs.getD j (0, 0) ∈ gs := by rw [List.getD_eq_getElem?_getD, List.getElem?_eq_getElem hlt]; exact List.getElem_mem _
        obtain ⟨g, hgg⟩ : ∃ g, g = gs.getD j (0, 0) := ⟨_, rfl⟩
        rw [← hgg] at p0 p1 p2 p4 p7 hgm
        simp only [Nat.zero_add] at p0 p1 p2 p3 p4 p5 p6 p7
        have hcard : (bitsOf g.2).length < (bitsOf s).length := card_lt (HGS.out ▸ hgm) (by rw [← HGS.out]; omega)
        have hset : g.2 < 2 ^ A.length := set_lt HS.out (HGS.out ▸ hgm)
        have HC := Lib.hid hcard; have HSE := Lib.hid hset; have HGG := Lib.hid hgg
        have hmx : (gs.take j).foldl (fun a g => max a (dep A m g.2)) 0 ≤ 13 := max_le (gs := gs.take j) (dep_le A m) 0 (by omega)
        have hdp := dep_le A m g.2
        clear hP2 hg hm hGR hgm hgg hcard hset
        go_wp2_with (go_at_call 36; refine (HD.out g.2 _ HSE.out HC.out (HP2.out.below (below1 _ _))).mono ?_; rintro e w2 ⟨rfl, hg2, hm2⟩)
        go_roundw
        case rel =>
          refine ⟨j + 1, by omega, by go_num, ?_, ?_, hm2⟩
          · rw [List.take_succ_eq_append_getElem hlt, List.foldl_append]
            have hge : gs[j] = g := by rw [HGG.out, List.getD_eq_getElem?_getD, List.getElem?_eq_getElem hlt]; rfl
            rw [hge, List.foldl_cons, List.foldl_nil]
            congr 1; omega
          · exact grown_trans (grown_trans HG.out (grown_of_below (below1 _ _))) hg2
        case measure => simp [intOf]; omega
      · have hmx : (gs.take j).foldl (fun a g => max a (dep A m g.2)) 0 ≤ 13 := max_le (gs := gs.take j) (dep_le A m) 0 (by omega)
        clear hP2 hg
        go_wp2
        go_ret
        refine ⟨?_, grown_trans (grown_of_below HB1.out) HG.out, hm⟩
        have e : gs.take j = gs := List.take_of_length_le (by omega)
        have e2 : aft A m k s = gs.foldl (fun a g => max a (dep A m g.2)) 0 + 1 := by
          unfold aft aftF; rw [← HGS.out, if_neg (by omega)]
        rw [e2]
        show Ending.returned (.int .i64 (((gs.take j).foldl (fun a g => max a (dep A m g.2)) 0 : Nat) + 1)) = _
        rw [e]
        exact ret_int (by omega)
theorem und_umap : Tryz.prog.underlying 70 = some (.map 73 3) := by kernel_rfl
theorem und_uint : Tryz.prog.underlying 73 = some (.int .u64) := by kernel_rfl
theorem zero_int (w : World) : (zeroValue 3).run Tryz.prog w = .ok (.int .i64 0) w := by go_simp
set_option maxRecDepth 100000 in
set_option maxHeartbeats 1000000 in
theorem depth_step (A : List (List Nat)) (m s q r : Nat) (w0 w : World) (hok : Ok A m) (hs : s < 2 ^ A.length) (hP : PW w0 w q r A m)
    (hA : ∀ k w, k < m → PW w0 w q r A m → Calls Tryz.prog 64 #[.pointer (some ⟨q, 0, none⟩), .int .u64 s, .int .i64 k] w (AftPost A m k s r w)) :
    Calls Tryz.prog 36 #[.pointer (some ⟨q, 0, none⟩), .int .u64 s] w (DepPost A m s r w) := by
  have HP := Lib.hid hP; have HOK := Lib.hid hok; have HS := Lib.hid hs; have HC := Lib.hid hA
  obtain ⟨a, c, e0, ha⟩ := hP.a
  have e1 := hP.d
  have HE := Lib.hid e0; have HE1 := Lib.hid e1; have HA := Lib.hid ha
  have hq := hP.lt
  obtain ⟨l, hm, hl⟩ := hP.mem
  have HM := Lib.hid hm
  cases hlk : lk l s with
  | some v =>
    obtain ⟨t, ht, _, rfl⟩ := hl _ _ hlk
    obtain rfl : s = t := by omega
    have hrun := run_lookup (P := Tryz.prog) w 70 73 3 .u64 s r l _ und_umap und_uint hm hlk true
    simp only [↓reduceIte] at hrun
    clear hP hok hs hA ha hm hl hlk
    go_enter Tryz.func36, Tryz.ntmps36
    go_wp2
    go_ret
    exact ⟨rfl, World.grownBy.refl _ _, HP.out.mem⟩
  | none =>
    have hrun := run_lookup_none (P := Tryz.prog) w 70 73 3 .u64 s r l _ und_umap und_uint hm hlk (zero_int w) true
    simp only [↓reduceIte] at hrun
    have hin : (inputsS A : Int) = m := by
      rcases Classical.em (A = []) with h | h
      · rw [HOK.out.inp0 h, h]; rfl
      · rw [HOK.out.inp h]
    have hm10 := HOK.out.m10
    clear hP hok hs hA hm hl hlk
    go_enter Tryz.func36, Tryz.ntmps36
    go_wp2_with (go_at_call 47; refine (inputs_call _ _ A (HA.out.mono HP.out.b)).mono ?_; rintro e w1 ⟨rfl, hb1⟩)
    have HP1 := Lib.hid (HP.out.below hb1); have HB1 := Lib.hid hb1
    clear hb1
    go_loopw [7, 8, 9, 26] (fun le _ _ i wr => ∃ j : Nat, j ≤ m ∧ i = .int .i64 j ∧ le = .int .i64 (if (List.range j).foldl (fun l k => lst l (aft A m k s)) 0 = 0 then -1 else (((List.range j).foldl (fun l k => lst l (aft A m k s)) 0 : Nat) : Int)) ∧ w1.grownBy wr (some r) ∧ MemOk wr r A m) (fun _ _ _ i _ => m - (intOf i).toNat)
    case atStart => exact ⟨0, by omega, rfl, rfl, World.grownBy.refl _ _, HP1.out.mem⟩
    case round =>
      obtain ⟨j, hj, rfl, rfl, hg, hm⟩ := hrel
      have hP2 := HP1.out.grown hg hm
      have HP2 := Lib.hid hP2; have HG := Lib.hid hg; have HM2 := Lib.hid hm
      obtain ⟨L, hL⟩ : ∃ L, L = (List.range j).foldl (fun l k => lst l (aft A m k s)) 0 := ⟨_, rfl⟩
      rw [← hL]
      have HL := Lib.hid hL
      obtain ⟨x, hx⟩ : ∃ x : Int, x = if L = 0 then -1 else (L : Int) := ⟨_, rfl⟩
      rw [← hx]
      have HX := Lib.hid hx
      by_cases hlt : j < m
      · have h1 : (j:Int) < m := by omega
        have h2 : 0 ≤ (j:Int) := by omega
        have hst : (List.range (j + 1)).foldl (fun l k => lst l (aft A m k s)) 0 = lst L (aft A m j s) := by rw [List.range_succ, List.foldl_append, ← hL]; rfl
        have HST := Lib.hid hst
        obtain ⟨d, hd⟩ : ∃ d, d = aft A m j s := ⟨_, rfl⟩
        rw [← hd] at hst
        have HDD := Lib.hid hd
        have hxb : -1 ≤ x ∧ x ≤ L := by rw [hx]; split <;> omega
        clear hP2 hg hm hL hst hd hx
        go_wp2_with (go_at_call 64; refine (HC.out j _ hlt HP2.out).mono ?_; rintro e w2 ⟨rfl, hg2, hm2⟩)
        all_goals
          refine ⟨⟨j + 1, by omega, by go_num, ?_, grown_trans HG.out hg2, hm2⟩, by simp [intOf]; omega⟩
          rw [HST.out]
          have hxx := HX.out
          generalize aft A m j s = d at *
          congr 1
          by_cases hL0 : L = 0
          · rw [if_pos hL0] at hxx
            unfold lst
            (repeat' split) <;> omega
          · rw [if_neg hL0] at hxx
            unfold lst
            (repeat' split) <;> omega
      · obtain rfl : j = m := by omega
        have hdl : dep A j s = L := by rw [dep_eq, ← hL]
        have hLm : max 0 x = (L : Int) := by rw [hx]; split <;> omega
        have hL13 : L ≤ 13 := by rw [← hdl]; exact dep_le _ _ _
        have f0 := hP2.d
        have f1 := hP2.lt
        obtain ⟨l2, hm2, hl2⟩ := hm
        obtain ⟨w4, hupd, hm4, hg4⟩ := run_update (P := Tryz.prog) wr 70 73 3 .u64 s (.int .i64 L) r l2 und_umap und_uint hm2
        have hk4 := kp_of_map hg4 hm2 hm4
        have f2 := (hk4.2 q 1 f1).trans f0
        have hlk4 : lk (upd l2 s (.int .i64 L)) s = some (.int .i64 L) := by rw [lk_upd, if_pos rfl]
        have hrun4 := run_lookup (P := Tryz.prog) w4 70 73 3 .u64 s r _ _ und_umap und_uint hm4 hlk4 false
        simp only [Bool.false_eq_true, ↓reduceIte] at hrun4
        have f3 := hk4.1
        have HDL := Lib.hid hdl
        have HM4 := Lib.hid hm4
        have HL2 := Lib.hid hl2
        have HG4 := Lib.hid hg4
        clear hP2 hg hL hm2 hdl hm4 hk4 hl2 hg4 hlk4 hx
        go_wp2
        go_ret
        refine ⟨by rw [HDL.out]; rfl, grown_trans (grown_trans (grown_of_below HB1.out) HG.out) HG4.out, ⟨_, HM4.out, fun n v hv => ?_⟩⟩
        rw [lk_upd] at hv
        split at hv
        · cases hv; exact ⟨s, by assumption, HS.out, by rw [HDL.out]⟩
        · exact HL2.out _ _ hv
/-- The depth of a set. -/
theorem depth_call (A : List (List Nat)) (m q r : Nat) (w0 : World) (hok : Ok A m) : ∀ (f s : Nat) (w : World), (bitsOf s).length ≤ f → s < 2 ^ A.length → PW w0 w q r A m →
    Calls Tryz.prog 36 #[.pointer (some ⟨q, 0, none⟩), .int .u64 s] w (DepPost A m s r w) := by
  intro f
  induction f with
  | zero => exact fun s w hf hs hP => depth_step A m s q r w0 w hok hs hP fun k w hk hP => after_call A m k s q r w0 w hok hk hs hP fun t w ht hlt hP => absurd hlt (by omega)
  | succ f ih => exact fun s w hf hs hP => depth_step A m s q r w0 w hok hs hP fun k w hk hP => after_call A m k s q r w0 w hok hk hs hP fun t w ht hlt hP => ih t w (by omega) ht hP
theorem after_all (A : List (List Nat)) (m q r : Nat) (w0 : World) (hok : Ok A m) (k s : Nat) (w : World) (hk : k < m) (hs : s < 2 ^ A.length) (hP : PW w0 w q r A m) :
    Calls Tryz.prog 64 #[.pointer (some ⟨q, 0, none⟩), .int .u64 s, .int .i64 k] w (AftPost A m k s r w) :=
  after_call A m k s q r w0 w hok hk hs hP fun t w ht _ hP => depth_call A m q r w0 hok 12 t w (bits_len t) ht hP
end Go.Proofs.YtoiemkifgdnhaaaGreatDoor
