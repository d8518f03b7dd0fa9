/- What stays of a plan while one thing in it is changed. No conditions.
  Follow, by the reference: the plain law. No conditions.
  Follow, by the reference: the walk. Conditions: plans that read; each value is one of the eleven. -/
import Derived.Test.YtoiemkifgdnhaaaGreatDoorL13
import Derived.Test.YtoiemkifgdnhaaaGreatDoorL12
import Derived.Test.YtoiemkifgdnhaaaGreatDoorL1
namespace Go.Proofs.YtoiemkifgdnhaaaGreatDoor
open Go Go.RowKit
/-- Nothing that stood from block L on is changed but places S of block B. -/
def Tch (L B : Nat) (S : Nat → Prop) (w w' : World) : Prop := w.heap.size ≤ w'.heap.size ∧ ∀ b o, L ≤ b → b < w.heap.size → ¬ (b = B ∧ S o) → w'.cell? ⟨b, o, none⟩ = w.cell? ⟨b, o, none⟩
theorem Tch.refl (L B : Nat) (S : Nat → Prop) (w : World) : Tch L B S w w := ⟨Nat.le_refl _, fun _ _ _ _ _ => rfl⟩
theorem Tch.below {L B : Nat} {S : Nat → Prop} {w w1 w2 : World} (h : Tch L B S w w1) (hb : Below w1.heap.size w1 w2) : Tch L B S w w2 :=
  ⟨Nat.le_trans h.1 hb.size, fun b o hL h1 h2 => (olds hb b o (Nat.lt_of_lt_of_le h1 h.1)).trans (h.2 b o hL h1 h2)⟩
theorem Tch.set {L B : Nat} {S : Nat → Prop} {w w1 : World} (h : Tch L B S w w1) {b o : Nat} (hs : w.heap.size ≤ b ∨ b < L ∨ (b = B ∧ S o)) (u : Value) : Tch L B S w (w1.setCell ⟨b, o, none⟩ u) := by
  refine ⟨by simpa using h.1, fun b' o' hL h1 h2 => ?_⟩
  rw [← h.2 b' o' hL h1 h2]
  by_cases e : b = b'
  · by_cases e2 : o = o'
    · subst e e2
      rcases hs with hs | hs | hs
      · omega
      · omega
      · exact absurd hs h2
    · exact cset_off e2
  · exact cset_block e
theorem Tch.out {L B : Nat} {S : Nat → Prop} {w w' : World} (h : Tch L B S w w') {b : Nat} (hL : L ≤ b) (hb : b < w.heap.size) (hne : b ≠ B ∨ ∀ o, ¬ S o) (o : Nat) : w'.cell? ⟨b, o, none⟩ = w.cell? ⟨b, o, none⟩ :=
  h.2 b o hL hb (fun e => hne.elim (fun h => h e.1) (fun h => h o e.2))
theorem Sl.tch {L B : Nat} {S : Nat → Prop} {w w' : World} {v : Value} {n sz : Nat} {E E' : Nat → Nat → Nat → Prop} (h : Sl w v n sz E) (ht : Tch L B S w w') (hL : ∀ b, v.ownBlock = some b → L ≤ b) (hv : v.ownBlock ≠ some B ∨ ∀ o, ¬ S o)
    (he : ∀ k b o, k < n → L ≤ b → b < w.heap.size → (b ≠ B ∨ ∀ o, ¬ S o) → E k b o → E' k b o) : Sl w' v n sz E' := by
  obtain ⟨ao, cap, rfl, h1, h2⟩ := h
  refine ⟨ao, cap, rfl, h1, fun hne => ?_⟩
  obtain ⟨b, off, rfl, hbs, hc⟩ := h2 hne
  have hbB : b ≠ B ∨ ∀ o, ¬ S o := hv.imp (fun hv e => hv (by simp [Value.ownBlock, e])) id
  exact ⟨b, off, rfl, Nat.lt_of_lt_of_le hbs ht.1, fun k hk => he k b _ hk (hL b rfl) hbs hbB (hc k hk)⟩
theorem VAt.tch {L B : Nat} {S : Nat → Prop} {w w' : World} {b o x : Nat} (h : VAt w b o x) (ht : Tch L B S w w') (hL : L ≤ b) (hb : b < w.heap.size) (hS : b ≠ B ∨ ∀ i, i < 7 → ¬ S (o + i)) : VAt w' b o x := by
  have k : ∀ i, i < 7 → w'.cell? ⟨b, o + i, none⟩ = w.cell? ⟨b, o + i, none⟩ := fun i hi => ht.2 b _ hL hb (fun e => by
    rcases hS with hS | hS
    · exact hS e.1
    · exact hS i hi e.2)
  obtain ⟨c, d, h0, h1, h2, h3, h4, h5, h6⟩ := h
  exact ⟨c, d, (k 0 (by omega)).trans h0, (k 1 (by omega)).trans h1, (k 2 (by omega)).trans h2, (k 3 (by omega)).trans h3, (k 4 (by omega)).trans h4, (k 5 (by omega)).trans h5, (k 6 (by omega)).trans h6⟩
theorem Vals.tch {L B : Nat} {S : Nat → Prop} {w w' : World} {v : Value} {xs : List Nat} (h : Vals w v xs) (ht : Tch L B S w w') (hL : ∀ b, v.ownBlock = some b → L ≤ b) (hv : v.ownBlock ≠ some B ∨ ∀ o, ¬ S o) : Vals w' v xs :=
  ⟨h.1.tch ht hL hv fun _ _ _ _ hl hb hne he => he.tch ht hl hb (hne.imp id fun h i _ => h _), h.2⟩
theorem Ints.tch {L B : Nat} {S : Nat → Prop} {w w' : World} {v : Value} {xs : List Int} (h : Ints w v xs) (ht : Tch L B S w w') (hL : ∀ b, v.ownBlock = some b → L ≤ b) (hv : v.ownBlock ≠ some B ∨ ∀ o, ¬ S o) : Ints w' v xs :=
  ⟨h.1.tch ht hL hv fun _ _ _ _ hl hb hne he => by rw [ht.out hl hb hne]; exact he, h.2⟩
/-- A question's cells and rows. -/
structure AskV (L : Nat) (w : World) (b o : Nat) (i : Int) (va vn : Value) (xs : List Nat) (ns : List Int) : Prop where
  c0 : w.cell? ⟨b, o, none⟩ = some (.int .i64 i)
  c1 : w.cell? ⟨b, o + 1, none⟩ = some va
  c2 : w.cell? ⟨b, o + 2, none⟩ = some vn
  v : Vals w va xs
  n : Ints w vn ns
  i : -9223372036854775808 ≤ i ∧ i ≤ 9223372036854775807
  la : ∀ b, va.ownBlock = some b → L ≤ b
  ln : ∀ b, vn.ownBlock = some b → L ≤ b
theorem AskV.at {L : Nat} {w : World} {b o : Nat} {i : Int} {va vn : Value} {xs : List Nat} {ns : List Int} (h : AskV L w b o i va vn xs ns) : ∃ q : AskI, AskAt w b o q ∧ -9223372036854775808 ≤ q.1 ∧ q.1 ≤ 9223372036854775807 := by
  obtain ⟨a, c, e, _⟩ := h.v.1.open
  obtain ⟨a', c', e', _⟩ := h.n.1.open
  have h1 := h.c1; have h2 := h.c2; have h3 := h.v; have h4 := h.n
  rw [e] at h1 h3
  rw [e'] at h2 h4
  exact ⟨(i, xs, ns), ⟨h.c0, ⟨a, c, h1, h3⟩, ⟨a', c', h2, h4⟩⟩, h.i⟩
theorem AskV.tch {L B : Nat} {S : Nat → Prop} {w w' : World} {b o : Nat} {i : Int} {va vn : Value} {xs : List Nat} {ns : List Int} (h : AskV L w b o i va vn xs ns) (ht : Tch L B S w w') (hL : L ≤ b) (hb : b < w.heap.size)
    (h0 : b ≠ B ∨ (¬ S o ∧ ¬ S (o + 1) ∧ ¬ S (o + 2))) (ha : va.ownBlock ≠ some B ∨ ∀ o, ¬ S o) (hn : vn.ownBlock ≠ some B ∨ ∀ o, ¬ S o) : AskV L w' b o i va vn xs ns := by
  have k : ∀ o', (b ≠ B ∨ ¬ S o') → w'.cell? ⟨b, o', none⟩ = w.cell? ⟨b, o', none⟩ := fun o' hS => ht.2 b _ hL hb (fun e => by
    rcases hS with hS | hS
    · exact hS e.1
    · exact hS e.2)
  exact ⟨(k _ (h0.imp id fun h => h.1)).trans h.c0, (k _ (h0.imp id fun h => h.2.1)).trans h.c1, (k _ (h0.imp id fun h => h.2.2)).trans h.c2, h.v.tch ht h.la ha, h.n.tch ht h.ln hn, h.i, h.la, h.ln⟩
theorem list_of {α : Type} (d : α) {n : Nat} {P : Nat → α → Prop} (h : ∀ k, k < n → ∃ a, P k a) : ∃ l : List α, l.length = n ∧ ∀ k, k < n → P k (l.getD k d) := by
  induction n with
  | zero => exact ⟨[], rfl, fun k hk => by omega⟩
  | succ n ih =>
    obtain ⟨l, h1, h2⟩ := ih fun k hk => h k (by omega)
    obtain ⟨a, ha⟩ := h n (by omega)
    refine ⟨l ++ [a], by simp [h1], fun k hk => ?_⟩
    by_cases hkn : k < n
    · have := h2 k hkn
      rwa [List.getD_eq_getElem?_getD, List.getElem?_append_left (by omega), ← List.getD_eq_getElem?_getD]
    · obtain rfl : k = n := by omega
      rw [List.getD_eq_getElem?_getD, List.getElem?_append_right (by omega)]
      simpa [h1] using ha
def AskSome (w : World) (v : Value) : Prop := ∃ qs, AskRows w v qs
theorem askSome_of {w : World} {g n cap : Nat} (hn : n ≤ cap) (h1 : n ≤ 1000) (hg : g < w.heap.size) (h : ∀ k, k < n → ∃ q : AskI, AskAt w g (k * 3) q ∧ -9223372036854775808 ≤ q.1 ∧ q.1 ≤ 9223372036854775807) : AskSome w (.slice (some ⟨g, 0, none⟩) n cap) := by
  obtain ⟨l, h2, h3⟩ := list_of a0 h
  refine ⟨l, ⟨_, cap, by rw [h2], by omega, fun _ => ⟨g, 0, rfl, hg, fun k hk => ?_⟩⟩, by omega, fun q hq => ?_⟩
  · rw [Nat.zero_add]; exact (h3 k (by omega)).1
  · obtain ⟨k, hk, rfl⟩ := List.mem_iff_getElem.1 hq
    have := (h3 k (by omega)).2
    rw [List.getD_eq_getElem?_getD, List.getElem?_eq_getElem hk] at this
    exact this
/-- The questions of a plan of the call's own, each with its rows. -/
structure Qs (L : Nat) (w : World) (g : Nat) (qs : List Ask) (os : List (Nat × Value × Value)) : Prop where
  gs : g < w.heap.size
  gL : L ≤ g
  at_ : ∀ k o q, os[k]? = some o → qs[k]? = some q → AskV L w g (k * 3) (o.1 : Int) o.2.1 o.2.2 q.2.1 q.2.2
  g1 : ∀ o, o ∈ os → o.2.1.ownBlock ≠ some g
  g2 : ∀ o, o ∈ os → o.2.2.ownBlock ≠ some g
  vn : ∀ o o', o ∈ os → o' ∈ os → ∀ B, o.2.1.ownBlock = some B → o'.2.2.ownBlock ≠ some B
  len : os.length = qs.length
  ap1 : Apart (os.map (·.2.1))
  ap2 : Apart (os.map (·.2.2))
theorem AsksAt.qs {w : World} {B g n cap : Nat} {qs : List Ask} {os : List (Nat × Value × Value)} (h : AsksAt w B (.slice (some ⟨g, 0, none⟩) n cap) qs os) (hq : ∀ a ∈ qs, AskOk a) : Qs B w g qs os := by
  have mem : ∀ o, o ∈ os → ∃ (k : Nat) (q : Ask), os[k]? = some o ∧ qs[k]? = some q := fun o ho => by
    obtain ⟨k, hk, rfl⟩ := List.mem_iff_getElem.1 ho
    exact ⟨k, qs[k]'(by rw [← h.len]; exact hk), List.getElem?_eq_getElem hk, List.getElem?_eq_getElem _⟩
  refine ⟨(h.own.lt g rfl).2, (h.own.lt g rfl).1, fun k o q ho hqk => ?_, fun o ho => ?_, fun o ho => ?_, fun o o' ho ho' b hb hb' => ?_, h.len, h.ap1, h.ap2⟩
  · obtain ⟨k1, ⟨zs, k2, k3⟩, k4⟩ := h.inn k o q ho hqk
    have hk := (List.getElem?_eq_some_iff.1 ho).1
    have ok := hq q (List.mem_of_getElem? hqk)
    have hn : n = qs.length := by rcases own_cases h.own with ⟨h1, _⟩ | ⟨_, _, h1, _⟩ <;> simp_all
    subst hn
    have hc : ∀ j, j < 3 → w.cell? ⟨g, k * 3 + j, none⟩ = (askC o)[j]? := fun j hj => by
      rw [h.own.cellAt _ (by have := h.len; omega), flat3_get _ hj, ho]; rfl
    have hvl : zs.length = q.2.1.length := by rw [← k2]; simp
    have hv := own_vals k3 (by rw [hvl]; exact ok.a.1) (fun z hz => ok.a.2 _ (by rw [← k2]; exact List.mem_map_of_mem hz))
    rw [k2] at hv
    have hi := own_ints k4 (by have := ok.n.1; omega) ok.n.2
    have := ok.i
    exact ⟨by have := hc 0 (by omega); rw [Nat.add_zero] at this; exact this, hc 1 (by omega), hc 2 (by omega), hv, hi, by rw [k1]; omega, fun b hb => (k3.lt b hb).1, fun b hb => (k4.lt b hb).1⟩
  · obtain ⟨k, q, ho, hqk⟩ := mem o ho
    obtain ⟨k1, ⟨zs, k2, k3⟩, k4⟩ := h.inn k o q ho hqk
    rcases own_apart k3 h.own (by decide) with e | e
    · rw [e]; simp
    · exact e
  · obtain ⟨k, q, ho, hqk⟩ := mem o ho
    obtain ⟨k1, ⟨zs, k2, k3⟩, k4⟩ := h.inn k o q ho hqk
    rcases own_apart k4 h.own (by decide) with e | e
    · rw [e]; simp
    · exact e
  · obtain ⟨k, q, ho, hqk⟩ := mem o ho
    obtain ⟨k', q', ho', hqk'⟩ := mem o' ho'
    obtain ⟨_, ⟨zs, _, k3⟩, _⟩ := h.inn k o q ho hqk
    obtain ⟨_, _, k4⟩ := h.inn k' o' q' ho' hqk'
    rcases own_apart k3 k4 (by decide) with e | e
    · rw [e] at hb; simp at hb
    · exact e (hb.trans hb'.symm)
theorem Qs.below {L : Nat} {w w' : World} {g : Nat} {qs : List Ask} {os : List (Nat × Value × Value)} (h : Qs L w g qs os) (hb : Below w.heap.size w w') : Qs L w' g qs os := by
  refine ⟨Nat.lt_of_lt_of_le h.gs hb.size, h.gL, fun k o q ho hq => ?_, h.g1, h.g2, h.vn, h.len, h.ap1, h.ap2⟩
  have a := h.at_ k o q ho hq
  exact ⟨(olds hb _ _ h.gs).trans a.c0, (olds hb _ _ h.gs).trans a.c1, (olds hb _ _ h.gs).trans a.c2, a.v.mono hb, a.n.mono hb, a.i, a.la, a.ln⟩
section
variable {L : Nat} {w w' : World} {g cap : Nat} {qs : List Ask} {os : List (Nat × Value × Value)} (h : Qs L w g qs os) (hl : qs.length ≤ 1000) (hc : qs.length ≤ cap)
include h hl hc
theorem Qs.some_of (hw : w.heap.size ≤ w'.heap.size) (he : ∀ k o q, os[k]? = some o → qs[k]? = some q → ∃ q : AskI, AskAt w' g (k * 3) q ∧ -9223372036854775808 ≤ q.1 ∧ q.1 ≤ 9223372036854775807) : AskSome w' (.slice (some ⟨g, 0, none⟩) qs.length cap) := by
  refine askSome_of hc hl (Nat.lt_of_lt_of_le h.gs hw) fun k hk => ?_
  exact he k (os[k]'(by rw [h.len]; exact hk)) qs[k] (List.getElem?_eq_getElem _) (List.getElem?_eq_getElem hk)
/-- Nothing is changed. -/
theorem Qs.same {B : Nat} (ht : Tch L B (fun _ => False) w w') : AskSome w' (.slice (some ⟨g, 0, none⟩) qs.length cap) :=
  h.some_of hl hc ht.1 fun k o q ho hq => ((h.at_ k o q ho hq).tch ht h.gL h.gs (.inr ⟨id, id, id⟩) (.inr fun _ => id) (.inr fun _ => id)).at
/-- A question's input. -/
theorem Qs.input {k : Nat} {z : Int} (ht : Tch L g (fun o => o = k * 3) w w') (hz : w'.cell? ⟨g, k * 3, none⟩ = some (.int .i64 z)) (hz2 : -9223372036854775808 ≤ z ∧ z ≤ 9223372036854775807) : AskSome w' (.slice (some ⟨g, 0, none⟩) qs.length cap) :=
  h.some_of hl hc ht.1 fun j o q ho hq => by
    have a := h.at_ j o q ho hq
    have g1 := h.g1 o (List.mem_of_getElem? ho)
    have g2 := h.g2 o (List.mem_of_getElem? ho)
    by_cases e : j = k
    · subst e
      exact AskV.at (i := z) ⟨hz, (ht.2 _ _ h.gL h.gs (fun e => by omega)).trans a.c1, (ht.2 _ _ h.gL h.gs (fun e => by omega)).trans a.c2, a.v.tch ht a.la (.inl g1), a.n.tch ht a.ln (.inl g2), hz2, a.la, a.ln⟩
    · exact (a.tch ht h.gL h.gs (.inr ⟨by omega, by omega, by omega⟩) (.inl g1) (.inl g2)).at
/-- A question's place. -/
theorem Qs.place {k gn cn j m : Nat} {z : Int} {o : Nat × Value × Value} (ho : os[k]? = some o) (hvn : o.2.2 = .slice (some ⟨gn, 0, none⟩) m cn) (ht : Tch L gn (fun o => o = j) w w') (hz : w'.cell? ⟨gn, j, none⟩ = some (.int .i64 z)) (hz2 : -9223372036854775808 ≤ z ∧ z ≤ 9223372036854775807) :
    AskSome w' (.slice (some ⟨g, 0, none⟩) qs.length cap) :=
  h.some_of hl hc ht.1 fun i o' q ho' hq => by
    have a := h.at_ i o' q ho' hq
    have mo := List.mem_of_getElem? ho
    have mo' := List.mem_of_getElem? ho'
    have hb : o.2.2.ownBlock = some gn := by rw [hvn]; rfl
    have hgn : g ≠ gn := fun e => h.g2 o mo (by rw [hb, e])
    have hva : o'.2.1.ownBlock ≠ some gn := fun e => h.vn o' o mo' mo gn e hb
    by_cases e : i = k
    · subst e
      rw [ho] at ho'
      cases ho'
      have hLg := a.ln gn hb
      have hN : Ints w' o.2.2 (q.2.2.set j z) := by
        obtain ⟨⟨ao, cc, e1, e2, e3⟩, n1, n2⟩ := a.n
        rw [hvn] at e1
        simp only [Value.slice.injEq] at e1
        obtain ⟨rfl, rfl, rfl⟩ := e1
        refine ⟨⟨_, cn, by rw [hvn, List.length_set], by rw [List.length_set]; exact e2, fun hne => ?_⟩, by rw [List.length_set]; exact n1, fun x hx => ?_⟩
        · rw [List.length_set] at hne
          obtain ⟨b, off, e4, e5, e6⟩ := e3 hne
          simp only [Option.some.injEq, Addr.mk.injEq, and_true] at e4
          obtain ⟨rfl, rfl⟩ := e4
          refine ⟨gn, 0, rfl, Nat.lt_of_lt_of_le e5 ht.1, fun t ht2 => ?_⟩
          rw [List.length_set] at ht2
          have e7 := e6 t ht2
          simp only [Nat.zero_add, Nat.mul_one] at e7 ⊢
          by_cases htj : t = j
          · subst htj
            rw [hz, List.getD_eq_getElem?_getD, List.getElem?_set_self ht2]; rfl
          · rw [ht.2 _ _ hLg e5 (fun e => htj e.2), e7, List.getD_eq_getElem?_getD, List.getD_eq_getElem?_getD, List.getElem?_set_ne (fun e => htj e.symm)]
        · rcases List.mem_or_eq_of_mem_set hx with hx | hx
          · exact n2 x hx
          · rw [hx]; exact hz2
      exact AskV.at (i := (o.1 : Int)) ⟨(ht.out h.gL h.gs (.inl hgn) _).trans a.c0, (ht.out h.gL h.gs (.inl hgn) _).trans a.c1, (ht.out h.gL h.gs (.inl hgn) _).trans a.c2, a.v.tch ht a.la (.inl hva), hN, a.i, a.la, a.ln⟩
    · refine (a.tch ht h.gL h.gs (.inl hgn) (.inl hva) (.inl fun e2 => ?_)).at
      exact h.ap2 k i o.2.2 o'.2.2 gn (fun e3 => e e3.symm) (by rw [List.getElem?_map, ho]; rfl) (by rw [List.getElem?_map, ho']; rfl) hb e2
/-- A question's answers: some are other ones. -/
theorem Qs.answer {k gv cv_ m : Nat} {S : Nat → Prop} {o : Nat × Value × Value} (ho : os[k]? = some o) (hva : o.2.1 = .slice (some ⟨gv, 0, none⟩) m cv_) (ht : Tch L gv S w w') (hz : ∀ j, j < m → (∃ x, x ≤ 10 ∧ VAt w' gv (j * 7) x) ∨ ∀ i, i < 7 → ¬ S (j * 7 + i)) :
    AskSome w' (.slice (some ⟨g, 0, none⟩) qs.length cap) :=
  h.some_of hl hc ht.1 fun i o' q ho' hq => by
    have a := h.at_ i o' q ho' hq
    have mo := List.mem_of_getElem? ho
    have mo' := List.mem_of_getElem? ho'
    have hb : o.2.1.ownBlock = some gv := by rw [hva]; rfl
    have hgn : g ≠ gv := fun e => h.g1 o mo (by rw [hb, e])
    have hvn : o'.2.2.ownBlock ≠ some gv := fun e => h.vn o o' mo mo' gv hb e
    by_cases e : i = k
    · subst e
      rw [ho] at ho'
      cases ho'
      have hLg := a.la gv hb
      have hN : ∃ xs', Vals w' o.2.1 xs' := by
        obtain ⟨⟨ao, cc, e1, e2, e3⟩, n1, n2⟩ := a.v
        rw [hva] at e1
        simp only [Value.slice.injEq] at e1
        obtain ⟨rfl, rfl, rfl⟩ := e1
        by_cases hm : q.2.1.length = 0
        · exact ⟨[], ⟨_, cv_, by rw [hva, hm]; rfl, by simp, fun h => absurd rfl h⟩, by simp, by simp⟩
        obtain ⟨b, off, e4, e5, e6⟩ := e3 hm
        simp only [Option.some.injEq, Addr.mk.injEq, and_true] at e4
        obtain ⟨rfl, rfl⟩ := e4
        have hall : ∀ j, j < q.2.1.length → ∃ x, x ≤ 10 ∧ VAt w' gv (j * 7) x := by
          intro j hj
          rcases hz j hj with hz | hz
          · exact hz
          · have e7 := e6 j hj
            rw [Nat.zero_add] at e7
            exact ⟨_, getD_le n2 hj, e7.tch ht hLg e5 (.inr hz)⟩
        obtain ⟨l, l1, l2⟩ := list_of 0 hall
        refine ⟨l, ⟨_, cv_, by rw [hva, l1], by rw [l1]; exact e2, fun _ => ⟨gv, 0, rfl, Nat.lt_of_lt_of_le e5 ht.1, fun t ht2 => ?_⟩⟩, by omega, fun x hx => ?_⟩
        · rw [Nat.zero_add]; exact (l2 t (by omega)).2
        · obtain ⟨t, ht2, rfl⟩ := List.mem_iff_getElem.1 hx
          have := (l2 t (by omega)).1
          rw [List.getD_eq_getElem?_getD, List.getElem?_eq_getElem ht2] at this
          exact this
      obtain ⟨xs', hN⟩ := hN
      exact AskV.at (i := (o.1 : Int)) ⟨(ht.out h.gL h.gs (.inl hgn) _).trans a.c0, (ht.out h.gL h.gs (.inl hgn) _).trans a.c1, (ht.out h.gL h.gs (.inl hgn) _).trans a.c2, hN, a.n.tch ht a.ln (.inl hvn), a.i, a.la, a.ln⟩
    · refine (a.tch ht h.gL h.gs (.inl hgn) (.inl fun e2 => ?_) (.inl hvn)).at
      exact h.ap1 k i o.2.1 o'.2.1 gv (fun e3 => e e3.symm) (by rw [List.getElem?_map, ho]; rfl) (by rw [List.getElem?_map, ho']; rfl) hb e2
/-- A question's answers are fewer. -/
theorem Qs.fewer {k gv cv_ m off : Nat} {o : Nat × Value × Value} (ho : os[k]? = some o) (hva : o.2.1 = .slice (some ⟨gv, 0, none⟩) (m + 1) (cv_ + 1)) (ha : m ≠ 0 → off = 7) (ht : Tch L g (fun o => o = k * 3 + 1) w w') (hz : w'.cell? ⟨g, k * 3 + 1, none⟩ = some (.slice (some ⟨gv, off, none⟩) m cv_)) :
    AskSome w' (.slice (some ⟨g, 0, none⟩) qs.length cap) :=
  h.some_of hl hc ht.1 fun i o' q ho' hq => by
    have a := h.at_ i o' q ho' hq
    have mo' := List.mem_of_getElem? ho'
    have g1 := h.g1 o' mo'
    have g2 := h.g2 o' mo'
    by_cases e : i = k
    · subst e
      rw [ho] at ho'
      cases ho'
      have hv := a.v.tch ht a.la (.inl g1)
      have hN : ∃ xs', Vals w' (.slice (some ⟨gv, off, none⟩) m cv_) xs' := by
        obtain ⟨⟨ao, cc, e1, e2, e3⟩, n1, n2⟩ := hv
        rw [hva] at e1
        simp only [Value.slice.injEq] at e1
        obtain ⟨rfl, e0, rfl⟩ := e1
        obtain ⟨b, off', e4, e5, e6⟩ := e3 (by omega)
        simp only [Option.some.injEq, Addr.mk.injEq, and_true] at e4
        obtain ⟨rfl, rfl⟩ := e4
        refine ⟨q.2.1.drop 1, ⟨_, cv_, by rw [List.length_drop, ← e0]; rfl, by rw [List.length_drop]; omega, fun hne => ?_⟩, by rw [List.length_drop]; omega, fun x hx => n2 x (List.mem_of_mem_drop hx)⟩
        rw [List.length_drop] at hne
        refine ⟨gv, 7, by rw [ha (by omega)], e5, fun t ht2 => ?_⟩
        rw [List.length_drop] at ht2
        have e7 := e6 (t + 1) (by omega)
        rw [show 0 + (t + 1) * 7 = 7 + t * 7 by omega] at e7
        rwa [List.getD_eq_getElem?_getD, List.getElem?_drop, Nat.add_comm 1 t, ← List.getD_eq_getElem?_getD]
      obtain ⟨xs', hN⟩ := hN
      exact AskV.at (i := (o.1 : Int)) ⟨(ht.2 _ _ h.gL h.gs (fun e => by omega)).trans a.c0, hz, (ht.2 _ _ h.gL h.gs (fun e => by omega)).trans a.c2, hN, a.n.tch ht a.ln (.inl g2), a.i, fun b hb => by cases hb; exact a.la gv (by rw [hva]; rfl), a.ln⟩
    · exact (a.tch ht h.gL h.gs (.inr ⟨by omega, by omega, by omega⟩) (.inl g1) (.inl g2)).at
end
theorem askV_of {w : World} {L g n cap k : Nat} {os : List (Nat × Value × Value)} {o : Nat × Value × Value} {q : Ask} (hown : w.ownsRow L 59 3 (.slice (some ⟨g, 0, none⟩) n cap) n (os.flatMap askC)) (ho : os[k]? = some o) (hk : k < n) (h1 : o.1 = q.1)
    (h2 : ∃ zs, zs.map (·.1) = q.2.1 ∧ w.ownsRow L 47 7 o.2.1 zs.length (cvs zs)) (h3 : w.ownsRow L 3 1 o.2.2 q.2.2.length (ci q.2.2)) (ok : AskOk q) : AskV L w g (k * 3) (o.1 : Int) o.2.1 o.2.2 q.2.1 q.2.2 := by
  obtain ⟨zs, k2, k3⟩ := h2
  have hc : ∀ j, j < 3 → w.cell? ⟨g, k * 3 + j, none⟩ = (askC o)[j]? := fun j hj => by
    rw [hown.cellAt _ (by omega), flat3_get _ hj, ho]; rfl
  have hvl : zs.length = q.2.1.length := by rw [← k2]; simp
  have hv := own_vals k3 (by rw [hvl]; exact ok.a.1) (fun z hz => ok.a.2 _ (by rw [← k2]; exact List.mem_map_of_mem hz))
  rw [k2] at hv
  have hi := own_ints h3 (by have := ok.n.1; omega) ok.n.2
  have := ok.i
  exact ⟨by have := hc 0 (by omega); rw [Nat.add_zero] at this; exact this, hc 1 (by omega), hc 2 (by omega), hv, hi, by rw [h1]; omega, fun b hb => (k3.lt b hb).1, fun b hb => (h3.lt b hb).1⟩
/-- One question more: one that is there already. -/
theorem AsksAt.more {W w9 w' : World} {L B g n cap k g9 k9 : Nat} {qs : List Ask} {os : List (Nat × Value × Value)} {o : Nat × Value × Value} (h : AsksAt W L (.slice (some ⟨g, 0, none⟩) n cap) qs os) (ok : ∀ a ∈ qs, AskOk a) (hn : n = qs.length) (hl : n + 1 ≤ 1000)
    (ho : os[k]? = some o) (hg : W.grownBy w9 (some g)) (hown : w9.ownsRow L 59 3 (.slice (some ⟨g9, 0, none⟩) (n + 1) k9) (n + 1) (os.flatMap askC ++ askC o)) (ht : Tch L B (fun _ => True) w9 w') (h9 : g9 ≠ B) (hB : ∀ x ∈ os, x.2.1.ownBlock ≠ some B ∧ x.2.2.ownBlock ≠ some B) : AskSome w' (.slice (some ⟨g9, 0, none⟩) (n + 1) k9) := by
  have hk := (List.getElem?_eq_some_iff.1 ho).1
  have hlen := h.len
  have rows : ∀ (i : Nat) (x : Nat × Value × Value) (a : Ask), os[i]? = some x → qs[i]? = some a → x.1 = a.1 ∧ (∃ zs, zs.map (·.1) = a.2.1 ∧ w9.ownsRow L 47 7 x.2.1 zs.length (cvs zs)) ∧ w9.ownsRow L 3 1 x.2.2 a.2.2.length (ci a.2.2) := by
    intro i x a hx ha
    obtain ⟨k1, ⟨zs, k2, k3⟩, k4⟩ := h.inn i x a hx ha
    exact ⟨k1, ⟨zs, k2, k3.kept hg (own_apart k3 h.own (by decide))⟩, k4.kept hg (own_apart k4 h.own (by decide))⟩
  have hown' : w9.ownsRow L 59 3 (.slice (some ⟨g9, 0, none⟩) (n + 1) k9) (n + 1) ((os ++ [o]).flatMap askC) := by rw [List.flatMap_append]; simpa using hown
  refine askSome_of (by rcases own_cases hown with ⟨e, _⟩ | ⟨_, _, e, _, _, h2, _⟩ <;> simp_all) hl (Nat.lt_of_lt_of_le (hown.lt g9 rfl).2 ht.1) fun j hj => ?_
  by_cases hjn : j < n
  · have e1 : (os ++ [o])[j]? = some (os[j]'(by omega)) := by rw [List.getElem?_append_left (by omega), List.getElem?_eq_getElem]
    obtain ⟨r1, r2, r3⟩ := rows j (os[j]'(by omega)) (qs[j]'(by omega)) (List.getElem?_eq_getElem _) (List.getElem?_eq_getElem _)
    exact ((askV_of hown' e1 hj r1 r2 r3 (ok _ (List.getElem_mem _))).tch ht (hown.lt g9 rfl).1 (hown.lt g9 rfl).2 (.inl h9) (.inl (hB _ (List.getElem_mem _)).1) (.inl (hB _ (List.getElem_mem _)).2)).at
  · have e1 : (os ++ [o])[j]? = some o := by rw [List.getElem?_append_right (by omega), show j - os.length = 0 by omega]; rfl
    obtain ⟨r1, r2, r3⟩ := rows k o (qs[k]'(by omega)) ho (List.getElem?_eq_getElem _)
    exact ((askV_of hown' e1 hj r1 r2 r3 (ok _ (List.getElem_mem _))).tch ht (hown.lt g9 rfl).1 (hown.lt g9 rfl).2 (.inl h9) (.inl (hB _ (List.mem_of_getElem? ho)).1) (.inl (hB _ (List.mem_of_getElem? ho)).2)).at
/-- A value is written. -/
theorem vat_put {w : World} {b o x : Nat} {c : Option Addr} {d : Nat} {u0 u1 u2 u3 u4 u5 u6 : Value} (h0 : w.cell? ⟨b, o, none⟩ = some u0) (h1 : w.cell? ⟨b, o + 1, none⟩ = some u1) (h2 : w.cell? ⟨b, o + 2, none⟩ = some u2) (h3 : w.cell? ⟨b, o + 3, none⟩ = some u3)
    (h4 : w.cell? ⟨b, o + 4, none⟩ = some u4) (h5 : w.cell? ⟨b, o + 5, none⟩ = some u5) (h6 : w.cell? ⟨b, o + 6, none⟩ = some u6) :
    VAt (((((((w.setCell ⟨b, o, none⟩ (.int .i64 (kd x))).setCell ⟨b, o + 1, none⟩ (.string (st x))).setCell ⟨b, o + 2, none⟩ (.int .i64 (dn x))).setCell ⟨b, o + 3, none⟩ (.int .i64 0)).setCell ⟨b, o + 4, none⟩ (.int .i64 (nn x))).setCell ⟨b, o + 5, none⟩ (.slice c 0 d)).setCell ⟨b, o + 6, none⟩ (.slice none 0 0)) b o x := by
  refine ⟨c, d, ?_, ?_, ?_, ?_, ?_, ?_, ?_⟩
  all_goals (repeat rw [cset_off (by omega)])
  · exact cset_same h0
  · exact cset_same (by rw [cset_off (by omega)]; exact h1)
  · exact cset_same (by repeat rw [cset_off (by omega)]
                        exact h2)
  · exact cset_same (by repeat rw [cset_off (by omega)]
                        exact h3)
  · exact cset_same (by repeat rw [cset_off (by omega)]
                        exact h4)
  · exact cset_same (by repeat rw [cset_off (by omega)]
                        exact h5)
  · exact cset_same (by repeat rw [cset_off (by omega)]
                        exact h6)
end Go.Proofs.YtoiemkifgdnhaaaGreatDoor
namespace Go.Proofs.YtoiemkifgdnhaaaGreatDoor
open Go Go.RowKit
/-- Whither the first of equal answers leads; -2: nowhere. -/
def nextL (ns : List Int) (x : Nat) : Nat → List Nat → Int
  | _, [] => -2
  | j, y :: ys => if y == x then (if j < ns.length then ns.getD j 0 else -2) else nextL ns x (j + 1) ys
theorem nextL_at (ns : List Int) (x : Nat) (xs : List Nat) {j : Nat} (hj : j < xs.length) : nextL ns x j (xs.drop j) = if xs.getD j 0 == x then (if j < ns.length then ns.getD j 0 else -2) else nextL ns x (j + 1) (xs.drop (j + 1)) := by
  have e : xs.getD j 0 = xs[j] := by rw [List.getD_eq_getElem?_getD, List.getElem?_eq_getElem hj]; rfl
  rw [List.drop_eq_getElem_cons hj, nextL, e]
theorem firstAt_cons (p : Nat → Bool) (y : Nat) (ys : List Nat) : firstAt p (y :: ys) = if p y = true then 0 else if firstAt p ys < 0 then -1 else firstAt p ys + 1 := by
  unfold firstAt
  rw [List.findIdx?_cons]
  cases hp : p y with
  | true => simp
  | false =>
    cases h : ys.findIdx? p with
    | none => simp
    | some k => simp; omega
theorem nextL_first (ns : List Int) (x : Nat) : ∀ (ys : List Nat) (j : Nat), nextL ns x j ys = if firstAt (fun y => x == y) ys < 0 ∨ (ns.length : Int) ≤ (j : Int) + firstAt (fun y => x == y) ys then -2 else ns.getD ((j : Int) + firstAt (fun y => x == y) ys).toNat 0
  | [], j => by
    have : firstAt (fun y => x == y) [] = -1 := rfl
    rw [this]; simp [nextL]
  | y :: ys, j => by
    rw [nextL, firstAt_cons, nextL_first ns x ys (j + 1)]
    by_cases h : y = x
    · subst h
      have h1 : (y == y) = true := by simp
      rw [if_pos h1, if_pos h1]
      by_cases hj : j < ns.length
      · rw [if_pos hj, if_neg (by omega)]; simp
      · rw [if_neg hj, if_pos (.inr (by omega))]
    · have h1 : ¬ (y == x) = true := by simpa using h
      have h2 : ¬ (x == y) = true := by simpa using fun e => h e.symm
      rw [if_neg h1, if_neg h2]
      generalize firstAt (fun y => x == y) ys = f
      by_cases hf : f < 0
      · rw [if_pos (.inl hf), if_pos hf, if_pos (.inl (by omega))]
      · rw [if_neg hf]
        have e : ((j + 1 : Nat) : Int) + f = (j : Int) + (f + 1) := by omega
        rw [e]
        by_cases hc : (ns.length : Int) ≤ (j : Int) + (f + 1)
        · rw [if_pos (.inr hc), if_pos (.inr hc)]
        · rw [if_neg (by omega), if_neg (by omega)]
theorem stepS_next (qs : List AskI) (t x : Nat) (n : Int) (hn : n = nextL (qs.getD t a0).2.2 x 0 (qs.getD t a0).2.1) : stepS qs t x = if n ≠ -1 ∧ (n ≤ t ∨ (qs.length : Int) ≤ n) then none else some n := by
  subst hn
  rw [nextL_first]
  unfold stepS
  simp only [Int.toNat_natCast]
  generalize firstAt (fun y => x == y) (qs.getD t a0).2.1 = f
  have e : ((0 : Nat) : Int) + f = f := by omega
  rw [e]
  by_cases h : f < 0 ∨ ((qs.getD t a0).2.2.length : Int) ≤ f
  · rw [if_pos h, if_pos h, if_pos (by omega)]
  · rw [if_neg h, if_neg h]
end Go.Proofs.YtoiemkifgdnhaaaGreatDoor
namespace Go.Proofs.YtoiemkifgdnhaaaGreatDoor
open Go Go.RowKit
set_option maxRecDepth 100000 in
set_option maxHeartbeats 1000000 in
theorem FollowR_none (w : World) (b : Value) (qs : List AskI) (dp lo : Int) (qa : Option Addr) (qc : Nat) (xs : List Nat) (h0 : qs.length = 0) (hb : Vals w b xs) :
    Calls Tryz.prog 27 #[.agg #[.slice qa qs.length qc, .int .i64 dp, .int .i64 lo], b] w fun e w' => e = .returned (.tuple #[.int .i64 (followS qs xs).1, .bool (followS qs xs).2]) ∧ Below w.heap.size w w' := by
  obtain ⟨ba, bc, rfl, hb1⟩ := hb.1.open
  have HB := Lib.hid hb
  have hbl := hb.2.1
  obtain ⟨R, hR⟩ : ∃ R, R = followS qs xs := ⟨_, rfl⟩
  rw [← hR]
  have HR := Lib.hid hR; have H0 := Lib.hid h0
  have q0 : ((qs.length : Int) == 0) = true := by rw [h0]; rfl
  clear hb hR h0
  go_enter Tryz.func27, Tryz.ntmps27
  go_wp2
  go_loopw [6, 7, 8, 9, 10] (fun u6 i _ _ _ wr => u6 = .int .i64 (-1) ∧ i = .int .i64 0 ∧ Below w.heap.size w wr) (fun _ _ _ _ _ _ => 0)
  case atStart => exact ⟨rfl, rfl, below1 _ _⟩
  case round =>
    obtain ⟨rfl, rfl, hbel⟩ := hrel
    have HBL := Lib.hid hbel
    clear hbel
    by_cases hx : xs.length = 0
    · have q1 : ¬ (0:Int) < xs.length := by omega
      go_wp2
      exact bodyPost_ret (v := .tuple #[.int .i64 R.1, .bool R.2]) (by
        have e : R = (-1, true) := by rw [HR.out, List.eq_nil_of_length_eq_zero hx]; unfold followS; rw [if_pos H0.out]; rfl
        simp [results, Tryz.results27, go_sem, e]) rfl ⟨rfl, HBL.out⟩
    · have q1 : (0:Int) < xs.length := by omega
      go_wp2
      exact bodyPost_ret (v := .tuple #[.int .i64 R.1, .bool R.2]) (by
        have e : R = (-1, false) := by
          rw [HR.out]; unfold followS; rw [if_pos H0.out]
          cases xs with
          | nil => simp at hx
          | cons x xs => rw [goS, if_pos (by omega)]
        simp [results, Tryz.results27, go_sem, e]) rfl ⟨rfl, HBL.out⟩
set_option maxRecDepth 100000 in
set_option maxHeartbeats 2000000 in
theorem FollowR_some (w : World) (b : Value) (qs : List AskI) (dp lo : Int) (qa : Option Addr) (qc : Nat) (xs : List Nat) (h0 : qs.length ≠ 0) (hq : AskRows w (.slice qa qs.length qc) qs) (hb : Vals w b xs) :
    Calls Tryz.prog 27 #[.agg #[.slice qa qs.length qc, .int .i64 dp, .int .i64 lo], b] w fun e w' => e = .returned (.tuple #[.int .i64 (followS qs xs).1, .bool (followS qs xs).2]) ∧ Below w.heap.size w w' := by
  obtain ⟨ba, bc, rfl, hb1⟩ := hb.1.open
  have HB := Lib.hid hb; have HQ := Lib.hid hq
  have hbl := hb.2.1
  have hql := hq.2.1
  obtain ⟨R, hR⟩ : ∃ R, R = followS qs xs := ⟨_, rfl⟩
  rw [← hR]
  have HR := Lib.hid hR; have H0 := Lib.hid h0
  have q0 : ((qs.length : Int) == 0) = false := by rw [beq_eq_false_iff_ne]; omega
  have hqp : 0 < qs.length := by omega
  clear hb hR h0 hq
  go_enter Tryz.func27, Tryz.ntmps27
  go_wp2
  go_loopw [6, 7, 8, 9, 10] (fun u6 i _ _ _ wr => ∃ (j : Nat) (at_ : Int), j ≤ xs.length ∧ u6 = .int .i64 at_ ∧ i = .int .i64 j ∧ -1 ≤ at_ ∧ at_ < qs.length ∧ goS qs at_ (xs.drop j) = R ∧ wr.cell? ⟨w.heap.size, 0, none⟩ = some (.slice qa qs.length qc) ∧ Below w.heap.size w wr ∧ w.heap.size < wr.heap.size) (fun _ i _ _ _ _ => xs.length - (intOf i).toNat)
  case atStart => exact ⟨0, 0, by omega, rfl, rfl, by omega, by omega, by rw [HR.out, List.drop_zero]; unfold followS; rw [if_neg H0.out], by simp, below1 _ _, by simp⟩
  case round =>
    obtain ⟨j, at_, hj, rfl, rfl, ha1, ha2, hgo, hbx, hbel, hsz⟩ := hrel
    have HBL := Lib.hid hbel
    by_cases hlt : j < xs.length
    · have q1 : (j:Int) < xs.length := by omega
      have q2 : 0 ≤ (j:Int) := by omega
      rw [goS_cons qs at_ xs hlt] at hgo
      have HGO := Lib.hid hgo
      clear hgo
      by_cases hneg : at_ < 0
      · clear hbel
        go_wp2
        exact bodyPost_ret (v := .tuple #[.int .i64 R.1, .bool R.2]) (by
          have e : R = (-1, false) := by rw [← HGO.out, if_pos hneg]
          simp [results, Tryz.results27, go_sem, e]) rfl ⟨rfl, HBL.out⟩
      · obtain ⟨t, rfl⟩ : ∃ t : Nat, at_ = t := ⟨at_.toNat, by omega⟩
        have hta : t < qs.length := by omega
        have vq := HQ.out.mono hbel
        obtain ⟨b2, o2, rfl, g2, r0, ⟨aa, ac, r1, r2⟩, ⟨na, nc, r3, r4⟩⟩ := vq.1.at hta
        have q3 : (0:Int) ≤ (t:Int) := by omega
        have HR2 := Lib.hid r2; have HR4 := Lib.hid r4
        have hal := r2.2.1
        have hnl := r4.2.1
        have hy10 := r2.2.2
        have HY10 := Lib.hid hy10
        clear vq r2 r4 r0 hbel hy10
        obtain ⟨Q, hQ⟩ : ∃ Q, Q = qs.getD t a0 := ⟨_, rfl⟩
        rw [← hQ] at r1 r3 HR2 HR4 hal hnl HY10
        have HQQ := Lib.hid hQ
        clear hQ
        obtain ⟨x, hx⟩ : ∃ x, x = xs.getD j 0 := ⟨_, rfl⟩
        rw [← hx] at HGO
        have HX := Lib.hid hx
        clear hx
        go_wp2
        go_loopw [8, 9, 10] (fun u8 u9 _ wz => ∃ (i : Nat) (jj : Int), i ≤ Q.2.1.length ∧ jj = (i : Int) - 1 ∧ u9 = .int .i64 jj ∧ u8 = .int .i64 (nextL Q.2.2 x i (Q.2.1.drop i)) ∧ Below wr.heap.size wr wz) (fun _ u9 _ _ => (intOf u9 + 1).toNat)
        case atStart => exact ⟨Q.2.1.length, _, by omega, rfl, by congr 1, by rw [List.drop_length]; rfl, Below.refl _ _⟩
        case round =>
          obtain ⟨i, jj, hi, hjj, rfl, rfl, hbz⟩ := hrel
          have HBZ := Lib.hid hbz
          have y0 := (olds hbz _ _ hsz).trans hbx
          have y1 := (olds hbz _ _ g2).trans r1
          have y3 := (olds hbz _ _ g2).trans r3
          have z0 := Nat.lt_of_lt_of_le hsz hbz.size
          have z1 := Nat.lt_of_lt_of_le g2 hbz.size
          by_cases hi0 : i = 0
          · subst hi0
            have hjm : jj = -1 := by omega
            subst hjm
            obtain ⟨n, hn⟩ : ∃ n, n = nextL Q.2.2 x 0 (Q.2.1.drop 0) := ⟨_, rfl⟩
            rw [← hn]
            rw [List.drop_zero, HQQ.out] at hn
            have HST := Lib.hid (stepS_next qs t x n hn)
            have HBF := Lib.hid (bthen HBL.out hbz)
            clear hbz hn hbx r1 r3 y1 y3 hjj
            by_cases hm : n = -1
            · have hd3 : (n != -1) = false := by simp [hm]
              go_wp2
              refine ⟨⟨j + 1, n, by omega, rfl, by go_num, by omega, by omega, ?_, y0, HBF.out, z0⟩, by simp [intOf]; omega⟩
              have := HGO.out; rw [if_neg (by omega), HST.out, if_neg (by omega)] at this; exact this
            · have hd3 : (n != -1) = true := by simp [hm]
              by_cases hnt : n ≤ t
              · go_wp2
                exact bodyPost_ret (v := .tuple #[.int .i64 R.1, .bool R.2]) (by
                  have e : R = (-1, false) := by rw [← HGO.out, if_neg (by omega), HST.out, if_pos ⟨hm, .inl hnt⟩]
                  simp [results, Tryz.results27, go_sem, e]) rfl ⟨rfl, HBF.out⟩
              · by_cases hnq : (qs.length : Int) ≤ n
                · go_wp2
                  exact bodyPost_ret (v := .tuple #[.int .i64 R.1, .bool R.2]) (by
                    have e : R = (-1, false) := by rw [← HGO.out, if_neg (by omega), HST.out, if_pos ⟨hm, .inr hnq⟩]
                    simp [results, Tryz.results27, go_sem, e]) rfl ⟨rfl, HBF.out⟩
                · go_wp2
                  refine ⟨⟨j + 1, n, by omega, rfl, by go_num, by omega, by omega, ?_, y0, HBF.out, z0⟩, by simp [intOf]; omega⟩
                  have := HGO.out; rw [if_neg (by omega), HST.out, if_neg (by omega)] at this; exact this
          · obtain ⟨m, rfl⟩ : ∃ m, i = m + 1 := ⟨i - 1, by omega⟩
            have hjm : jj = m := by omega
            subst hjm
            have m0 : (0:Int) ≤ (m:Int) := by omega
            have hml : m < Q.2.1.length := by omega
            have m1 : (m:Int) < Q.2.1.length := by omega
            have va := HR2.out.mono hbz
            obtain ⟨b1, o1, rfl, g1, c1, d1, p0, p1, p2, p3, p4, p5, p6⟩ := va.1.at hml
            have vb := HB.out.mono (bthen HBL.out hbz)
            obtain ⟨b3, o3, rfl, g3, c3, d3, u0, u1, u2, u3, u4, u5, u6⟩ := vb.1.at hlt
            have hy : Q.2.1.getD m 0 ≤ 10 := getD_le va.2.2 hml
            have hx : xs.getD j 0 ≤ 10 := getD_le vb.2.2 hlt
            obtain ⟨y, hyy⟩ : ∃ y, y = Q.2.1.getD m 0 := ⟨_, rfl⟩
            rw [← HX.out] at u0 u1 u2 u4 hx
            rw [← hyy] at p0 p1 p2 p4 hy
            have HNX := Lib.hid (nextL_at Q.2.2 x Q.2.1 hml)
            rw [← hyy] at HNX
            clear va vb hbz hyy hjj
            go_wp2
            go_region_held3 (fun w' => ∀ b o, b < wr.heap.size → w'.cell? ⟨b, o, none⟩ = wr.cell? ⟨b, o, none⟩) (first | exact olds (Below.refl _ _) | exact olds ((Below.refl _ _).drew) | exact olds ‹Below wr.heap.size wr _›)  (first | (go_at_call 29; refine (equal06 _ _ _ _ _ _ _ hy hx).mono ?_; rintro e w1 ⟨rfl, hbw0⟩; have hbw := bdrew hbw0; clear hbw0))
            have t0 := (olds hbw _ _ z0).trans y0
            have t1 := (olds hbw _ _ z1).trans y1
            have t3 := (olds hbw _ _ z1).trans y3
            have s0 := Nat.lt_of_lt_of_le z0 hbw.size
            have s1 := Nat.lt_of_lt_of_le z1 hbw.size
            have HBW := Lib.hid (bthen HBZ.out hbw)
            by_cases hyx : y = x
            · have hb9 : (y == x) = true := by simpa using hyx
              have HYX := Lib.hid hb9
              rw [hb9]
              by_cases hmn : m < Q.2.2.length
              · have m3 : (m:Int) < Q.2.2.length := by omega
                have hI := HR4.out.mono (bthen HBZ.out hbw)
                obtain ⟨b4, o4, rfl, g4, n0⟩ := hI.1.at hmn
                simp only [Nat.mul_one] at n0
                have HNN := Lib.hid (show nextL Q.2.2 x m (Q.2.1.drop m) = Q.2.2.getD m 0 by rw [HNX.out, if_pos HYX.out, if_pos hmn])
                obtain ⟨nv, hnv⟩ : ∃ nv, nv = Q.2.2.getD m 0 := ⟨_, rfl⟩
                rw [← hnv] at n0 HNN
                clear hI hnv hbw hyx hb9 p0 p1 p2 p3 p4 p5 p6 u0 u1 u2 u3 u4 u5 u6 y0 y1 y3 z0 z1
                go_wp2
                exact ⟨⟨m, (m : Int) - 1, by omega, rfl, rfl, by rw [HNN.out], HBW.out⟩, by simp [intOf]⟩
              · have m3 : ¬ (m:Int) < Q.2.2.length := by omega
                have HNN := Lib.hid (show nextL Q.2.2 x m (Q.2.1.drop m) = -2 by rw [HNX.out, if_pos HYX.out, if_neg hmn])
                clear hbw hyx hb9 p0 p1 p2 p3 p4 p5 p6 u0 u1 u2 u3 u4 u5 u6 y0 y1 y3 z0 z1
                go_wp2
                exact ⟨⟨m, (m : Int) - 1, by omega, rfl, rfl, by rw [HNN.out], HBW.out⟩, by simp [intOf]⟩
            · have hb9 : (y == x) = false := by simpa using hyx
              rw [hb9]
              have HNN := Lib.hid (show nextL Q.2.2 x m (Q.2.1.drop m) = nextL Q.2.2 x (m + 1) (Q.2.1.drop (m + 1)) by rw [HNX.out, if_neg (by rw [hb9]; simp)])
              clear hbw hyx hb9 p0 p1 p2 p3 p4 p5 p6 u0 u1 u2 u3 u4 u5 u6 y0 y1 y3 z0 z1
              go_wp2
              exact ⟨⟨m, (m : Int) - 1, by omega, rfl, rfl, by rw [HNN.out], HBW.out⟩, by simp [intOf]⟩
    · clear hbel
      have hje : j = xs.length := by omega
      go_wp2
      exact bodyPost_ret (v := .tuple #[.int .i64 R.1, .bool R.2]) (by
        have e : R = (at_, true) := by rw [← hgo, hje, List.drop_length]; rfl
        simp [results, Tryz.results27, go_sem, e]) rfl ⟨rfl, HBL.out⟩
theorem FollowR_call (w : World) (v b : Value) (p : PlanI) (xs : List Nat) (hp : PlanAt w v p) (hb : Vals w b xs) :
    Calls Tryz.prog 27 #[v, b] w fun e w' => e = .returned (.tuple #[.int .i64 (followS p.asks xs).1, .bool (followS p.asks xs).2]) ∧ Below w.heap.size w w' := by
  obtain ⟨qv, rfl, hq⟩ := hp
  obtain ⟨qa, qc, rfl, _⟩ := hq.1.open
  by_cases h0 : p.asks.length = 0
  · exact FollowR_none w b p.asks p.depth p.lower qa qc xs h0 hb
  · exact FollowR_some w b p.asks p.depth p.lower qa qc xs h0 hq hb
end Go.Proofs.YtoiemkifgdnhaaaGreatDoor
