/- A list of ints is copied, cut, sorted, made single: what the call owns. No conditions.
  A list of ints is copied, cut, sorted, made single: the calls. No conditions.
  Programs are divided by an input: the exported call. Conditions: 500 programs at most, each value one of the eleven.
  Whether a kind is known. Conditions: each value is one of the eleven.
  The lower bound: the plain law. No program in sight.
  The lower bound: the walk. Conditions: right answers of 500 programs at most.
  Which answers are permitted; useful inputs. Conditions: 500 programs at most, each value one of the eleven.
  A plan is made: the walk. Conditions: 500 programs at most, each value one of the eleven.
  How plans read; the first answer that a reply is. Conditions: each value is one of the eleven.
  Follow: the walk. Conditions: plans that read; each value is one of the eleven.
  What a plan is made of: the plain law that its check goes by. No program in sight.
  A plan's own check: the frame. No conditions.
  A plan's own check: the walk. Conditions: sets of twelve programs at most. -/
import Derived.Test.YtoiemkifgdnhaaaGreatDoorL11
import Derived.Test.YtoiemkifgdnhaaaGreatDoorShelf
import Derived.Lib.OwnBridge
import Derived.Sort.OwnSortedInts
namespace Go.Proofs.YtoiemkifgdnhaaaGreatDoor
open Go Go.RowKit
theorem compact_upto (d : Array Int) (hs : ∀ i j, i ≤ j → j < d.size → d[i]! ≤ d[j]!) : ∀ m, m ≤ d.size → (Lib.compactUpTo d m).Pairwise (· < ·) ∧ ∀ x, x ∈ Lib.compactUpTo d m ↔ ∃ j, j < m ∧ d[j]! = x := by
  intro m
  induction m with
  | zero => intro _; simp [Lib.compactUpTo]
  | succ m ih =>
    intro hm
    obtain ⟨h1, h2⟩ := ih (by omega)
    rw [Lib.compactUpTo_succ]
    by_cases hk : Lib.keeps d m = true
    · rw [if_pos hk]
      have hk2 : m = 0 ∨ d[m]! ≠ d[m - 1]! := by simpa [Lib.keeps] using hk
      refine ⟨?_, fun x => ?_⟩
      · rw [List.pairwise_append]
        refine ⟨h1, by simp, fun x hx y hy => ?_⟩
        simp only [List.mem_singleton] at hy; subst hy
        obtain ⟨j, hj, rfl⟩ := (h2 x).1 hx
        have e1 := hs j (m - 1) (by omega) (by omega)
        have e2 := hs (m - 1) m (by omega) (by omega)
        rcases hk2 with h | h <;> omega
      · rw [List.mem_append, h2 x, List.mem_singleton]
        constructor
        · rintro (⟨j, hj, e⟩ | e)
          · exact ⟨j, by omega, e⟩
          · exact ⟨m, by omega, e.symm⟩
        · rintro ⟨j, hj, e⟩
          by_cases hjm : j = m
          · subst hjm; exact .inr e.symm
          · exact .inl ⟨j, by omega, e⟩
    · rw [if_neg hk, List.append_nil]
      have hk2 : ¬ (m = 0 ∨ d[m]! ≠ d[m - 1]!) := by simpa [Lib.keeps] using hk
      refine ⟨h1, fun x => ?_⟩
      rw [h2 x]
      constructor
      · rintro ⟨j, hj, e⟩; exact ⟨j, by omega, e⟩
      · rintro ⟨j, hj, e⟩
        by_cases hjm : j = m
        · subst hjm
          refine ⟨j - 1, by omega, ?_⟩
          rw [← e]
          have : ¬ d[j]! ≠ d[j - 1]! := fun h => hk2 (.inr h)
          simpa using (Classical.not_not.1 this).symm
        · exact ⟨j, by omega, e⟩
theorem compact_sorted (zs : List Int) (hs : zs.Pairwise (· ≤ ·)) : (Lib.compact zs).Pairwise (· < ·) ∧ ∀ x, x ∈ Lib.compact zs ↔ x ∈ zs := by
  have h := compact_upto zs.toArray (fun i j hij hj => by
    have hj' : j < zs.length := by simpa using hj
    rw [getElem!_pos zs.toArray i (by simp; omega), getElem!_pos zs.toArray j (by simpa using hj')]
    rcases Nat.lt_or_ge i j with h | h
    · have := (List.pairwise_iff_getElem.1 hs) i j (by omega) hj' h
      simpa using this
    · have : i = j := by omega
      subst this; exact Int.le_refl _) zs.length (by simp)
  refine ⟨h.1, fun x => ?_⟩
  have h2 := h.2 x
  unfold Lib.compact
  rw [h2]
  constructor
  · rintro ⟨j, hj, e⟩
    rw [getElem!_pos zs.toArray j (by simpa using hj)] at e
    rw [← e]; simp
  · intro hx
    obtain ⟨j, hj, e⟩ := List.getElem_of_mem hx
    exact ⟨j, hj, by rw [getElem!_pos zs.toArray j (by simpa using hj)]; simpa using e⟩
/-- Two strictly increasing lists with the same elements are one. -/
theorem strict_ext : ∀ (l l' : List Int), l.Pairwise (· < ·) → l'.Pairwise (· < ·) → (∀ x, x ∈ l ↔ x ∈ l') → l = l'
  | [], [], _, _, _ => rfl
  | [], b :: l', _, _, h => absurd ((h b).2 (by simp)) (by simp)
  | a :: l, [], _, _, h => absurd ((h a).1 (by simp)) (by simp)
  | a :: l, b :: l', h1, h2, h => by
    rw [List.pairwise_cons] at h1 h2
    have hab : a = b := by
      rcases List.mem_cons.1 ((h a).1 (by simp)) with e | e
      · exact e
      · rcases List.mem_cons.1 ((h b).2 (by simp)) with e' | e'
        · exact e'.symm
        · have := h2.1 a e; have := h1.1 b e'; omega
    subst hab
    rw [strict_ext l l' h1.2 h2.2 fun x => ?_]
    constructor
    · intro hx
      rcases List.mem_cons.1 ((h x).1 (List.mem_cons_of_mem _ hx)) with e | e
      · subst e; have := h1.1 x hx; omega
      · exact e
    · intro hx
      rcases List.mem_cons.1 ((h x).2 (List.mem_cons_of_mem _ hx)) with e | e
      · subst e; have := h2.1 x hx; omega
      · exact e
/-- The programs of a list, in order, each once. -/
def alivePs (n : Nat) (l : List Int) : List Nat := (List.range n).filter fun p => decide ((p : Int) ∈ l)
theorem alive_eq (n : Nat) (l : List Int) : Lib.compact ((l.filter fun x => !(decide (x < 0) || decide ((n : Int) ≤ x))).mergeSort fun x y => decide (x ≤ y)) = pInts (alivePs n l) := by
  have hs : ((l.filter fun x => !(decide (x < 0) || decide ((n : Int) ≤ x))).mergeSort fun x y => decide (x ≤ y)).Pairwise (· ≤ ·) := by
    have := List.pairwise_mergeSort (le := fun x y : Int => decide (x ≤ y)) (fun a b c h1 h2 => by simp at h1 h2 ⊢; omega) (fun a b => by simp; omega) (l.filter fun x => !(decide (x < 0) || decide ((n : Int) ≤ x)))
    exact this.imp (fun h => by simpa using h)
  obtain ⟨h1, h2⟩ := compact_sorted _ hs
  refine strict_ext _ _ h1 ?_ fun x => ?_
  · unfold pInts
    rw [List.pairwise_map]
    have : (alivePs n l).Pairwise (· < ·) := List.Pairwise.filter _ List.pairwise_lt_range
    exact this.imp (fun h => by omega)
  · rw [h2 x, List.mem_mergeSort]
    unfold pInts alivePs
    simp only [List.mem_filter, List.mem_map, List.mem_range, Bool.not_eq_true', Bool.or_eq_false_iff, decide_eq_false_iff_not, decide_eq_true_eq]
    constructor
    · rintro ⟨hx, h3, h4⟩
      exact ⟨x.toNat, ⟨by omega, by rw [Int.toNat_of_nonneg (by omega)]; exact hx⟩, Int.toNat_of_nonneg (by omega)⟩
    · rintro ⟨p, ⟨hp, hm⟩, rfl⟩
      exact ⟨hm, by omega, by omega⟩
theorem pInts_filter (n : Nat) (q : Nat → Bool) : pInts ((List.range n).filter q) = pInts ((List.range n).filter q) := rfl
end Go.Proofs.YtoiemkifgdnhaaaGreatDoor
namespace Go.Proofs.YtoiemkifgdnhaaaGreatDoor
open Go Go.RowKit
/-- A row of ints of the call's own comes back. -/
def OwnB (base : Nat) (xs : List Int) (w : World) (en : Ending) (w' : World) : Prop :=
  ∃ v, en = .returned v ∧ w'.ownsRow base 3 1 v xs.length (ci xs) ∧ Below base w w'
theorem clone_call (w : World) (v : Value) (xs : List Int) (h : Ints w v xs) : Calls Tryz.prog 49 #[v] w (OwnB w.heap.size xs w) := by
  obtain ⟨ao, cap, rfl, h1, h2⟩ := h.1
  cases ao with
  | none =>
    have h0 : xs = [] := by
      rcases xs with _ | ⟨x, xs⟩
      · rfl
      · obtain ⟨b, off, e, _⟩ := h2 (by simp); cases e
    subst h0
    refine (Tryz.slices_Clone_int_nil _ _ w).mono ?_
    rintro e w' ⟨rfl, rfl⟩
    exact ⟨_, rfl, World.ownsRow_nil _ _ _ _, Below.refl _ _⟩
  | some a =>
    by_cases h0 : xs.length = 0
    · have : xs = [] := List.eq_nil_of_length_eq_zero h0
      subst this
      refine (Tryz.slices_Clone_int_zero a _ w).mono ?_
      rintro e w' ⟨v', rfl, h3, _, h4⟩
      exact ⟨_, rfl, h3, h4⟩
    · obtain ⟨b, off, e, hb, hc⟩ := h2 h0
      cases e
      refine (Tryz.slices_Clone_int b off xs.length cap xs w (Nat.le_refl _) h.2.1 (fun j hj => by simpa using hc j hj)).mono ?_
      rintro e w' ⟨v', rfl, h3, _, h4⟩
      rw [List.take_length] at h3
      exact ⟨_, rfl, h3, h4⟩
/-- The closure of Groups. -/
theorem gone_gives (n : Nat) (x : Int) (ao : Option Addr) (c B : Nat) (W : World) (hc : W.cell? ⟨B, 0, none⟩ = some (.slice ao n c)) :
    FnGives Tryz.prog 50 #[.pointer (some ⟨B, 0, none⟩)] #[.int .i64 x] (.bool (decide (x < 0) || decide ((n : Int) ≤ x))) W := by
  show Calls Tryz.prog 50 #[.int .i64 x, .pointer (some ⟨B, 0, none⟩)] W _
  go_enter Tryz.func50, Tryz.ntmps50
  go_wp2
  all_goals (go_ret; exact ⟨ret_bool (by simp_all), 0, rfl⟩)
open Go.Sort Go.Lib in
theorem gone_pred (n : Nat) (ao : Option Addr) (c B : Nat) (w : World) (hB : B < w.heap.size) (hc : w.cell? ⟨B, 0, none⟩ = some (.slice ao n c)) :
    PredAt Tryz.prog 50 #[.pointer (some ⟨B, 0, none⟩)] (Value.int .i64) (fun x => decide (x < 0) || decide ((n : Int) ≤ x)) w :=
  fun W x hb => gone_gives n x ao c B W ((hb.cell (p := ⟨B, 0, none⟩) hB).trans hc)
open Go.Sort Go.Lib in
theorem gone_over (n : Nat) (ao : Option Addr) (c B blk off size : Nat) (w : World) (hB : B < w.heap.size) (hne : B ≠ blk) (hc : w.cell? ⟨B, 0, none⟩ = some (.slice ao n c)) :
    PredOver Tryz.prog 50 #[.pointer (some ⟨B, 0, none⟩)] (Value.int .i64) (fun x => decide (x < 0) || decide ((n : Int) ≤ x)) blk off size w :=
  fun m os dk x _ => gone_gives n x ao c B _ (by
    unfold sortWorld
    rw [cell?_grow _ _ _ (by show B < (putRow _ _ _ _ _).heap.size; rw [size_putRow]; exact hB), cell?_putRow_other _ _ blk off _ _ (Or.inl hne)]
    exact hc)
def goneF (n : Nat) (l : List Int) : List Int := l.filter fun x => !(decide (x < 0) || decide ((n : Int) ≤ x))
theorem delete_nil (fv : Value) (w : World) : Calls Tryz.prog 48 #[.slice none 0 0, fv] w fun e w' => e = .returned (.slice none 0 0) ∧ w = w' := by
  go_enter Tryz.func48, Tryz.ntmps48
  go_wp2_with (go_at_call 75; refine (Tryz.slices_IndexFunc_empty (α := Int) _ _ _ _).mono ?_; rintro e w' ⟨rfl, rfl⟩)
  go_ret
  exact ⟨rfl, rfl⟩
open Go.Sort Go.Lib in
theorem delete_call (w : World) (base n : Nat) (v : Value) (xs : List Int) (ao : Option Addr) (c B : Nat) (h : w.ownsRow base 3 1 v xs.length (ci xs)) (hB : B < base) (hBs : B < w.heap.size) (hc : w.cell? ⟨B, 0, none⟩ = some (.slice ao n c)) :
    Calls Tryz.prog 48 #[v, .func (.func 50) #[] #[.pointer (some ⟨B, 0, none⟩)]] w (OwnB base (goneF n xs) w) := by
  by_cases hv : v = .slice none 0 0
  · subst hv
    have h0 : xs = [] := by
      rcases h.2 with ⟨_, h0⟩ | ⟨g, cap, cur, e, _⟩
      · exact List.eq_nil_of_length_eq_zero h0
      · cases e
    subst h0
    refine (delete_nil _ w).mono ?_
    rintro e w' ⟨rfl, rfl⟩
    exact ⟨_, rfl, World.ownsRow_nil _ _ _ _, Below.refl _ _⟩
  · obtain ⟨g, cap, rfl, hb, hg, hn, hm, _, hH⟩ := holds_of_ownsRow (enc := Value.int .i64) h hv
    have eg : ∀ args w, (callFunc 50 args).run Tryz.prog w = .ok (.enter 50 args) w := enters_of Tryz.func50 (by kernel_rfl) rfl
    have h63 : xs.length ≤ 9223372036854775807 := by unfold maxLen at hm; omega
    have := Tryz.slices_DeleteFunc (Value.int .i64) (fun _ => rfl) (fun x => decide (x < 0) || decide ((n : Int) ≤ x)) 50 #[.pointer (some ⟨B, 0, none⟩)] eg 0 zero_int g 0 cap xs.toArray w
      (gone_pred n ao c B w hBs hc) (gone_over n ao c B g 0 _ w hBs (by omega) hc) hH (by simpa using h63) (by simpa using hn)
    simp only [List.size_toArray] at this
    refine this.mono ?_
    rintro e w' ⟨rfl, q, rfl⟩
    have hle : (goneF n xs).length ≤ xs.length := List.length_filter_le _ _
    have h2 := ownsRow_putRow (enc := Value.int .i64) (q := q) (k := (goneF n xs).length) (ys := goneF n xs ++ List.replicate (xs.length - (goneF n xs).length) 0) h (by simp; omega) hle
    rw [List.take_left] at h2
    exact ⟨_, rfl, h2, below_putRow (Below.refl _ _) hb⟩
/-- Sorted in place. -/
def InB (base : Nat) (v : Value) (xs : List Int) (w : World) (en : Ending) (w' : World) : Prop :=
  en = .returned (.tuple #[]) ∧ w'.ownsRow base 3 1 v xs.length (ci xs) ∧ Below base w w'
open Go.Sort Go.Lib in
theorem sort_call (w : World) (base : Nat) (v : Value) (xs : List Int) (h : w.ownsRow base 3 1 v xs.length (ci xs)) (hbs : base ≤ w.heap.size) (h63 : xs.length < 4611686018427387904) :
    Calls Tryz.prog 51 #[v] w (InB base v (xs.mergeSort fun x y => decide (x ≤ y)) w) := by
  by_cases hv : v = .slice none 0 0
  · subst hv
    have h0 : xs = [] := by
      rcases h.2 with ⟨_, h0⟩ | ⟨g, cap, cur, e, _⟩
      · exact List.eq_nil_of_length_eq_zero h0
      · cases e
    subst h0
    refine (Tryz.slices_Sort_int_none _ _ w).mono ?_
    rintro e w' ⟨rfl, rfl⟩
    exact ⟨rfl, by simpa using h, Below.refl _ _⟩
  · obtain ⟨g, cap, rfl, hb, hg, hn, hm, _, hH⟩ := holds_of_ownsRow (enc := Value.int .i64) h hv
    refine (Tryz.slices_Sort_int g 0 cap xs w hH hg h63).mono ?_
    rintro e w' ⟨rfl, q, os, rfl⟩
    have hl : (xs.mergeSort fun x y => decide (x ≤ y)).length = xs.length := List.length_mergeSort _
    rcases h.2 with ⟨e0, _⟩ | ⟨g', cap', cur, e0, _, hcur, h1, h2, h3, _⟩
    · cases e0
    · cases e0
      refine ⟨rfl, ?_, ?_⟩
      · rw [hl]; exact ownsRow_sortedI hl hb hcur h1 h2 h3
      · exact (Below.refl _ _).grown (grownBy_sortedI _) hbs (fun k hk => by cases hk; exact hb)
open Go.Sort Go.Lib in
theorem compact_call (w : World) (base : Nat) (v : Value) (xs : List Int) (h : w.ownsRow base 3 1 v xs.length (ci xs)) :
    Calls Tryz.prog 53 #[v] w (OwnB base (compact xs) w) := by
  by_cases hv : v = .slice none 0 0
  · subst hv
    have h0 : xs = [] := by
      rcases h.2 with ⟨_, h0⟩ | ⟨g, cap, cur, e, _⟩
      · exact List.eq_nil_of_length_eq_zero h0
      · cases e
    subst h0
    refine (Tryz.slices_Compact_int_empty _ _ w).mono ?_
    rintro e w' ⟨rfl, rfl⟩
    exact ⟨_, rfl, World.ownsRow_nil _ _ _ _, Below.refl _ _⟩
  · obtain ⟨g, cap, rfl, hb, hg, hn, hm, _, hH⟩ := holds_of_ownsRow (enc := Value.int .i64) h hv
    have h63 : xs.length ≤ 9223372036854775807 := by unfold maxLen at hm; omega
    refine (Tryz.slices_Compact_int g 0 cap xs w hH h63 hn).mono ?_
    rintro e w' ⟨rfl, q, rfl⟩
    have hle : (compact xs).length ≤ xs.length := compact_length_le xs
    have h2 := ownsRow_putRow (enc := Value.int .i64) (q := q) (k := (compact xs).length) (ys := compact xs ++ List.replicate (xs.length - (compact xs).length) 0) h (by simp; omega) hle
    rw [List.take_left] at h2
    exact ⟨_, rfl, h2, below_putRow (Below.refl _ _) hb⟩
end Go.Proofs.YtoiemkifgdnhaaaGreatDoor
namespace Go.Proofs.YtoiemkifgdnhaaaGreatDoor
open Go Go.RowKit
def groupsS (A : List (List Nat)) (alive : List Int) (k : Int) : List (List Int) := if rightS A = true ∧ 0 ≤ k ∧ k < inputsS A then (gfold A k.toNat (alivePs A.length alive)).2 else []
theorem own_base {w : World} {b b' : Nat} {e : TypeId} {s n : Nat} {v : Value} {xs : List Value} (h : w.ownsRow b e s v n xs) (hb : b' ≤ b) : w.ownsRow b' e s v n xs := by
  refine ⟨h.1, ?_⟩
  rcases h.2 with h2 | ⟨g, cap, cur, h1, h2, h3, h4⟩
  · exact .inl h2
  · exact .inr ⟨g, cap, cur, h1, Nat.le_trans hb h2, h3, h4⟩
theorem Lists.base {w : World} {b b' : Nat} {o : Value} {ls : List (List Int)} (h : Lists w b o ls) (hb : b' ≤ b) : Lists w b' o ls := by
  obtain ⟨os, h1, h2, h3, h4⟩ := h
  exact ⟨os, own_base h1 hb, h2, fun k u l hu hl => own_base (h3 k u l hu hl) hb, h4⟩
theorem right_rows {A : List (List Nat)} (h : rightS A = true) : ∀ l ∈ A, l.length = inputsS A ∧ ∀ x ∈ l, x ≤ 9 := by
  intro l hl
  unfold rightS at h
  rw [List.all_eq_true] at h
  have := h l hl
  unfold rowB at this
  simp only [Bool.and_eq_true, beq_iff_eq, Bool.not_eq_true', List.any_eq_false, decide_eq_true_eq] at this
  exact ⟨this.1, fun x hx => by have := this.2 x hx; omega⟩
theorem alive_lt {n : Nat} {l : List Int} : ∀ p ∈ alivePs n l, p < n := fun p hp => by simp [alivePs] at hp; exact hp.1
theorem alive_len (n : Nat) (l : List Int) : (alivePs n l).length ≤ n := by
  have := List.length_filter_le (fun p : Nat => decide ((p : Int) ∈ l)) (List.range n)
  simpa [alivePs] using this
theorem alive_ints {n : Nat} {l : List Int} (hn : n ≤ 500) : ∀ x ∈ pInts (alivePs n l), -9223372036854775808 ≤ x ∧ x ≤ 9223372036854775807 := by
  intro x hx
  simp only [pInts, List.mem_map] at hx
  obtain ⟨p, hp, rfl⟩ := hx
  have := alive_lt p hp
  omega
def GroupsPost (ls : List (List Int)) (w : World) (en : Ending) (w' : World) : Prop := ∃ o, en = .returned o ∧ Lists w' w.heap.size o ls ∧ Below w.heap.size w w'
set_option maxRecDepth 100000 in
set_option maxHeartbeats 1000000 in
theorem Groups_call (w : World) (a b : Value) (A : List (List Nat)) (alive : List Int) (k : Int) (ha : ValRows w a A) (hb : Ints w b alive) (hG : G w) (hn : A.length ≤ 500) :
    Calls Tryz.prog 18 #[a, b, .int .i64 k] w (GroupsPost (groupsS A alive k) w) := by
  have HA := Lib.hid ha; have HB := Lib.hid hb; have HG := Lib.hid hG
  obtain ⟨ao, ac, rfl, ha1⟩ := ha.1.open
  have hsz : w.heap.size < w.heap.size + 1 := by omega
  clear ha hb hG
  cases hr : rightS A with
  | false =>
    have HR := Lib.hid hr
    go_enter Tryz.func18, Tryz.ntmps18
    go_wp2_with (go_at_call 46; refine (right_call _ _ A (HA.out.mono (below1 _ _))).mono ?_; rintro e w1 ⟨rfl, hb1⟩; rw [HR.out])
    go_ret
    exact ⟨_, rfl, by rw [groupsS, if_neg (by simp [HR.out])]; exact Lists.nil _ _, bthen (below1 _ _) hb1⟩
  | true =>
    have HR := Lib.hid hr
    by_cases hk0 : k < 0
    · go_enter Tryz.func18, Tryz.ntmps18
      go_wp2_with (go_at_call 46; refine (right_call _ _ A (HA.out.mono (below1 _ _))).mono ?_; rintro e w1 ⟨rfl, hb1⟩; rw [HR.out])
      go_ret
      exact ⟨_, rfl, by rw [groupsS, if_neg (by omega)]; exact Lists.nil _ _, bthen (below1 _ _) hb1⟩
    · by_cases hki : (inputsS A : Int) ≤ k
      · go_enter Tryz.func18, Tryz.ntmps18
        go_wp2_with (first | (go_at_call 46; refine (right_call _ _ A (HA.out.mono (below1 _ _))).mono ?_; rintro e w1 ⟨rfl, hb1⟩; rw [HR.out]; have hc1 := olds hb1) | (go_at_call 47; refine (inputs_call _ _ A (HA.out.mono (bthen (below1 _ _) hb1))).mono ?_; rintro e w2 ⟨rfl, hb2⟩))
        go_ret
        exact ⟨_, rfl, by rw [groupsS, if_neg (by omega)]; exact Lists.nil _ _, bthen (bthen (below1 _ _) hb1) hb2⟩
      · have hnk : ∃ n : Nat, k = n := ⟨k.toNat, by omega⟩
        obtain ⟨kn, rfl⟩ := hnk
        go_enter Tryz.func18, Tryz.ntmps18
        go_wp2_with (first | (go_at_call 46; refine (right_call _ _ A (HA.out.mono (below1 _ _))).mono ?_; rintro e w1 ⟨rfl, hb1⟩; rw [HR.out]; have hc1 := olds hb1; have hz1 := hb1.size) | (go_at_call 47; refine (inputs_call _ _ A (HA.out.mono (bthen (below1 _ _) hb1))).mono ?_; rintro e w2 ⟨rfl, hb2⟩; have hc2 := olds hb2; have hz2 := hb2.size) | (go_at_call 49; refine (clone_call _ _ _ (HB.out.mono (bthen (bthen (below1 _ _) hb1) hb2))).mono ?_; rintro e w3 ⟨v3, rfl, ho3, hb3⟩; have hc3 := olds hb3; have hz3 := hb3.size) | (go_at_call 48; refine (delete_call _ w2.heap.size A.length v3 alive ao ac w.heap.size ho3 (by simp at hz1; omega) (by simp at hz1; omega) (by simp at hz1; rw [hc3 _ _ (by omega), hc2 _ _ (by omega), hc1 _ _ (by simp)]; simp)).mono ?_; rintro e w4 ⟨v4, rfl, ho4, hb4⟩; have hc4 := olds hb4; have hz4 := hb4.size) | (go_at_call 51; refine (sort_call _ w2.heap.size v4 _ ho4 (by omega) (by have := List.length_filter_le (fun x : Int => !(decide (x < 0) || decide ((A.length : Int) ≤ x))) alive; have := HB.out.2.1; unfold goneF; omega)).mono ?_; rintro e w5 ⟨rfl, ho5, hb5⟩; have hc5 := olds hb5; have hz5 := hb5.size))
        simp only [World.size_alloc] at hz1
        have hcx : w5.cell? ⟨w.heap.size, 0, none⟩ = some (.slice ao A.length ac) := by
          rw [hc5 _ _ (by omega), hc4 _ _ (by omega), hc3 _ _ (by omega), hc2 _ _ (by omega), hc1 _ _ (by simp)]; simp
        have hb25 : Below w.heap.size w w5 := bthen (bthen (bthen (below1 _ _) hb1) hb2) (hb3.trans (hb4.trans hb5))
        have hG5 := HG.out.mono hb25
        have hA5 := HA.out.mono hb25
        have hlt : w.heap.size < w2.heap.size := by omega
        have hs5 : w2.heap.size ≤ w5.heap.size := by omega
        have ho6 := ho5
        have HB25 := Lib.hid hb25; have HG5 := Lib.hid hG5; have HA5 := Lib.hid hA5; have HO5 := Lib.hid ho6; have HS5 := Lib.hid hs5
        have hle : w.heap.size ≤ w2.heap.size := by omega
        have HLE := Lib.hid hle
        clear hc1 hc2 hc3 hc4 hc5 hz1 hz2 hz3 hz4 hz5 hb1 hb2 hb3 hb4 hb5 ho3 ho4 ho5 ho6 hb25 hG5 hA5 hs5 hle
        go_region_held3 (fun w' => ∀ b o, b < w2.heap.size → w'.cell? ⟨b, o, none⟩ = w5.cell? ⟨b, o, none⟩) (first | exact olds (Below.refl _ _) | exact olds ((Below.refl _ _).drew) | exact olds ‹Below w2.heap.size w5 _›) (first | (go_at_call 53; refine (compact_call _ w2.heap.size v4 _ (own_below HO5.out (Below.refl _ _).drew)).mono ?_; rintro e w6 ⟨v6, rfl, ho6, hb6⟩; have hb56 : Below w2.heap.size w5 w6 := (Below.refl _ _).drew.trans hb6) | (go_at_call 52; refine (groups_call w6 _ _ A (alivePs A.length alive) kn (inputsS A) (HA.out.mono (HB25.out.trans (hb56.mono HLE.out))) (own_ints (by have := ho6; unfold goneF at this; rw [alive_eq] at this; exact this) (by rw [pInts_len]; have := alive_len A.length alive; omega) (alive_ints hn)) (HG.out.mono (HB25.out.trans (hb56.mono HLE.out))) (fun l hl => (right_rows HR.out l hl).1) (by omega) alive_lt (Nat.le_trans (alive_len _ _) hn)).mono ?_; rintro e w7 ⟨v7, o7, zs, rfl, ho7, hz7, hl7, hb7⟩; have hb57 : Below w2.heap.size w5 w7 := hb56.trans (hb7.mono (Nat.le_trans HS5.out hb56.size))))
        go_wp2
        go_ret
        refine ⟨_, rfl, ?_, HB25.out.trans (hb57.mono HLE.out)⟩
        have hs6 := HB25.out.size
        have hs7 := hb56.size
        rw [groupsS, if_pos ⟨HR.out, by omega, by omega⟩]
        exact hl7.base (by omega)
end Go.Proofs.YtoiemkifgdnhaaaGreatDoor
namespace Go.Proofs.YtoiemkifgdnhaaaGreatDoor
open Go Go.RowKit
def sameRow (A : List (List Nat)) (k p : Nat) : Bool := A.getD p [] == A.getD k []
theorem alike_two (A : List (List Nat)) (k p : Nat) : alikeS A [k, p] = sameRow A k p := by simp [alikeS, sameRow]
set_option maxHeartbeats 400000 in
theorem lower1_call (w : World) (A : List (List Nat)) (k p B1 B2 : Nat) (ao : Option Addr) (ac : Nat) (ha : ValRows w (.slice ao A.length ac) A) (hk : k < A.length) (hp : p < A.length)
    (h1 : B1 < w.heap.size) (h2 : B2 < w.heap.size) (c1 : w.cell? ⟨B1, 0, none⟩ = some (.slice ao A.length ac)) (c2 : w.cell? ⟨B2, 0, none⟩ = some (.int .i64 p)) :
    Calls Tryz.prog 68 #[.int .i64 k, .pointer (some ⟨B1, 0, none⟩), .pointer (some ⟨B2, 0, none⟩)] w fun e w' => e = .returned (.bool (sameRow A k p)) ∧ Below w.heap.size w w' := by
  have HA := Lib.hid ha
  have ha2 := ha.2
  clear ha
  go_enter Tryz.func68, Tryz.ntmps68
  go_wp2_with (go_at_call 43; refine (alike_call _ _ _ A [k, p] (HA.out.mono (below1 _ _)) ?_ ?_).mono ?_)
  · refine ⟨⟨_, 2, rfl, by simp [pInts], fun _ => ⟨_, 0, rfl, by simp, fun j hj => ?_⟩⟩, by simp [pInts], ?_⟩
    · have : j = 0 ∨ j = 1 := by simp [pInts] at hj; omega
      rcases this with rfl | rfl <;> simp [pInts]
    · intro x hx; simp [pInts] at hx; omega
  · intro q hq; simp at hq; omega
  · rintro e w1 ⟨rfl, hb⟩
    rw [alike_two]
    go_wp2
    go_ret
    exact ⟨rfl, bthen (below1 _ _) hb⟩
set_option maxHeartbeats 400000 in
theorem indexFunc_low (w : World) (v : Value) (ks : List Nat) (A : List (List Nat)) (p B1 B2 : Nat) (ao : Option Addr) (ac : Nat) (hv : Ints w v (pInts ks)) (ha : ValRows w (.slice ao A.length ac) A) (hk : ∀ k ∈ ks, k < A.length) (hp : p < A.length)
    (h1 : B1 < w.heap.size) (h2 : B2 < w.heap.size) (c1 : w.cell? ⟨B1, 0, none⟩ = some (.slice ao A.length ac)) (c2 : w.cell? ⟨B2, 0, none⟩ = some (.int .i64 p)) :
    Calls Tryz.prog 75 #[v, .func (.func 68) #[] #[.pointer (some ⟨B1, 0, none⟩), .pointer (some ⟨B2, 0, none⟩)]] w
    fun e w' => e = .returned (.int .i64 (firstAt (fun k => sameRow A k p) ks)) ∧ Below w.heap.size w w' := by
  have HV := Lib.hid hv; have HA := Lib.hid ha; have HK := Lib.hid hk; have C1 := Lib.hid c1; have C2 := Lib.hid c2
  obtain ⟨bo, bc, rfl, hv1⟩ := hv.1.open
  have hv2 := hv.2.1
  rw [pInts_len] at *
  clear ha hv hk c1 c2
  go_enter Tryz.func75, Tryz.ntmps75
  go_wp2
  go_loopw [5, 8] (fun u i wr => ∃ k : Nat, k ≤ ks.length ∧ i = .int .i64 k ∧ (∀ j, j < k → sameRow A (ks.getD j 0) p = false) ∧ Below w.heap.size w wr) (fun _ i _ => ks.length - (intOf i).toNat)
  case atStart => exact ⟨0, by omega, rfl, fun j h => by omega, Below.refl _ _⟩
  case round =>
    obtain ⟨k, hk, rfl, he, hbel⟩ := hrel
    have HR := Lib.hid he; have HBL := Lib.hid hbel
    by_cases hlt : k < ks.length
    · have q1 : (k:Int) < ks.length := by omega
      have q0 : 0 ≤ (k:Int) := by omega
      have va := HV.out.mono hbel
      obtain ⟨b1, o1, rfl, g1, p0⟩ := va.1.at (show k < (pInts ks).length by rw [pInts_len]; exact hlt)
      rw [pInts_getD hlt] at p0
      simp only [Nat.mul_one] at p0
      have hkx : ks.getD k 0 < A.length := HK.out _ (by rw [List.getD_eq_getElem?_getD, List.getElem?_eq_getElem hlt]; exact List.getElem_mem _)
      clear va he hbel
      generalize hgx : ks.getD k 0 = x at *
      have HX := Lib.hid hgx; clear hgx
      go_wp2_with (go_at_call 68; refine (lower1_call _ A x p B1 B2 ao ac (HA.out.mono HBL.out) hkx hp (Nat.lt_of_lt_of_le h1 HBL.out.size) (Nat.lt_of_lt_of_le h2 HBL.out.size) ((olds HBL.out _ _ h1).trans C1.out) ((olds HBL.out _ _ h2).trans C2.out)).mono ?_; rintro e w1 ⟨rfl, hbw⟩)
      · go_ret
        have hx9 : sameRow A x p = true := by assumption
        exact ⟨ret_int (firstAt_hit HR.out hlt (by rw [HX.out]; exact hx9)).symm, bthen HBL.out hbw⟩
      · go_roundw
        case rel =>
          have hx9 : sameRow A x p = false := by assumption
          refine ⟨k + 1, by omega, by go_num, fun j hj => ?_, bthen HBL.out hbw⟩
          by_cases hjk : j = k
          · subst hjk; rw [HX.out]; exact hx9
          · exact HR.out j (by omega)
        case measure => simp [intOf]; omega
    · clear he hbel
      go_wp2
      go_ret
      obtain rfl : k = ks.length := by omega
      exact ⟨ret_int (firstAt_none HR.out).symm, HBL.out⟩
set_option maxHeartbeats 400000 in
theorem contains_low (w : World) (v : Value) (ks : List Nat) (A : List (List Nat)) (p B1 B2 : Nat) (ao : Option Addr) (ac : Nat) (hv : Ints w v (pInts ks)) (ha : ValRows w (.slice ao A.length ac) A) (hk : ∀ k ∈ ks, k < A.length) (hp : p < A.length)
    (h1 : B1 < w.heap.size) (h2 : B2 < w.heap.size) (c1 : w.cell? ⟨B1, 0, none⟩ = some (.slice ao A.length ac)) (c2 : w.cell? ⟨B2, 0, none⟩ = some (.int .i64 p)) :
    Calls Tryz.prog 67 #[v, .func (.func 68) #[] #[.pointer (some ⟨B1, 0, none⟩), .pointer (some ⟨B2, 0, none⟩)]] w
    fun e w' => e = .returned (.bool (ks.any fun k => sameRow A k p)) ∧ Below w.heap.size w w' := by
  have HC := Lib.hid (indexFunc_low w v ks A p B1 B2 ao ac hv ha hk hp h1 h2 c1 c2)
  clear hv ha hk c1 c2
  go_enter Tryz.func67, Tryz.ntmps67
  go_wp2_with (go_at_call 75; refine HC.out.mono ?_; rintro e w1 ⟨rfl, hbw⟩)
  go_ret
  exact ⟨ret_bool (firstAt_nonneg _ _), hbw⟩
/-- The kinds of programs: the first one of each. -/
def kindsS (A : List (List Nat)) (n : Nat) : List Nat := (List.range n).foldl (fun ks p => if ks.any (fun k => sameRow A k p) then ks else ks ++ [p]) []
theorem kinds_succ (A : List (List Nat)) (n : Nat) : kindsS A (n + 1) = if (kindsS A n).any (fun k => sameRow A k n) then kindsS A n else kindsS A n ++ [n] := by
  unfold kindsS; rw [List.range_succ, List.foldl_append]; rfl
theorem kinds_lt (A : List (List Nat)) : ∀ n, (∀ k ∈ kindsS A n, k < n) ∧ (kindsS A n).length ≤ n := by
  intro n
  induction n with
  | zero => simp [kindsS]
  | succ n ih =>
    rw [kinds_succ]
    split
    · exact ⟨fun k hk => by have := ih.1 k hk; omega, by omega⟩
    · refine ⟨fun k hk => ?_, by simp; omega⟩
      rcases List.mem_append.1 hk with h | h
      · have := ih.1 k h; omega
      · simp at h; omega
/-- The greatest number of groups. -/
def mostS (A : List (List Nat)) (n : Nat) : Nat := (List.range n).foldl (fun (m k : Nat) => max m (groupsS A (upTo A.length) k).length) 1
theorem most_succ (A : List (List Nat)) (n : Nat) : mostS A (n + 1) = max (mostS A n) (groupsS A (upTo A.length) n).length := by
  unfold mostS; rw [List.range_succ, List.foldl_append]; rfl
def climb (m t : Nat) : Nat → Nat → Nat → Nat
  | 0, _, n => n
  | f + 1, reach, n => if reach < t then climb m t f (reach * m) (n + 1) else n
def lowerS (A : List (List Nat)) : Nat := climb (mostS A (inputsS A)) (kindsS A A.length).length (kindsS A A.length).length 1 0
end Go.Proofs.YtoiemkifgdnhaaaGreatDoor
namespace Go.Proofs.YtoiemkifgdnhaaaGreatDoor
open Go Go.RowKit
theorem alive_all (n : Nat) : alivePs n (upTo n) = List.range n := by
  unfold alivePs
  rw [List.filter_eq_self]
  intro p hp
  simp only [upTo, decide_eq_true_eq, List.mem_map]
  exact ⟨p, hp, rfl⟩
theorem kinds_pair (A : List (List Nat)) : ∀ n, (kindsS A n).Pairwise (fun k p => sameRow A k p = false) := by
  intro n
  induction n with
  | zero => simp [kindsS]
  | succ n ih =>
    rw [kinds_succ]
    split
    · exact ih
    · rename_i h
      rw [List.pairwise_append]
      refine ⟨ih, by simp, fun k hk p hp => ?_⟩
      simp only [List.mem_singleton] at hp; subst hp
      have := h
      simp only [Bool.not_eq_true, List.any_eq_false] at this
      simpa using this k hk
theorem row_diff {l l' : List Nat} (hl : l.length = l'.length) (hne : l ≠ l') : ∃ j, j < l.length ∧ l.getD j 0 ≠ l'.getD j 0 := by
  apply Classical.byContradiction
  intro h
  apply hne
  apply List.ext_getElem hl
  intro j h1 h2
  have : ¬ (l.getD j 0 ≠ l'.getD j 0) := fun k => h ⟨j, h1, k⟩
  simpa [List.getD_eq_getElem?_getD, h1, h2] using Classical.not_not.1 this
theorem two_of {α : Type} [DecidableEq α] {l : List α} {a b : α} (ha : a ∈ l) (hb : b ∈ l) (hne : a ≠ b) : 2 ≤ l.length := by
  match l, ha, hb with
  | [x], ha, hb => simp at ha hb; exact absurd (ha.trans hb.symm) hne
  | _ :: _ :: _, _, _ => simp
theorem groups_all {A : List (List Nat)} {k : Nat} (hr : rightS A = true) (hk : k < inputsS A) : groupsS A (upTo A.length) k = (gfold A k (List.range A.length)).2 := by
  rw [groupsS, if_pos ⟨hr, by omega, by omega⟩, alive_all]; rfl
theorem gfold_len2 (A : List (List Nat)) (k : Nat) (ps : List Nat) : (gfold A k ps).2.length = (gfold A k ps).1.length := by
  rw [(gfold_law A k ps).lists, List.length_map]
/-- Where rows differ some input divides. -/
theorem divides {A : List (List Nat)} (hr : rightS A = true) {k p : Nat} (hk : k < A.length) (hp : p < A.length) (h : sameRow A k p = false) : ∃ j, j < inputsS A ∧ 2 ≤ (groupsS A (upTo A.length) j).length := by
  have rows := right_rows hr
  have e1 : A.getD k [] ∈ A := by rw [List.getD_eq_getElem?_getD, List.getElem?_eq_getElem hk]; exact List.getElem_mem _
  have e2 : A.getD p [] ∈ A := by rw [List.getD_eq_getElem?_getD, List.getElem?_eq_getElem hp]; exact List.getElem_mem _
  obtain ⟨j, hj, hne⟩ := row_diff ((rows _ e2).1.trans (rows _ e1).1.symm) (by simpa [sameRow] using h)
  rw [(rows _ e2).1] at hj
  refine ⟨j, hj, ?_⟩
  rw [groups_all hr hj, gfold_len2]
  have L := gfold_law A j (List.range A.length)
  exact two_of ((L.vals (gval A j p)).2 ⟨p, by simpa using hp, rfl⟩) ((L.vals (gval A j k)).2 ⟨k, by simpa using hk, rfl⟩) hne
theorem most_ge (A : List (List Nat)) : ∀ n, 1 ≤ mostS A n ∧ ∀ j, j < n → (groupsS A (upTo A.length) j).length ≤ mostS A n := by
  intro n
  induction n with
  | zero => exact ⟨by simp [mostS], fun j h => by omega⟩
  | succ n ih =>
    rw [most_succ]
    refine ⟨by omega, fun j hj => ?_⟩
    by_cases h : j = n
    · subst h; omega
    · have := ih.2 j (by omega); omega
theorem most_two {A : List (List Nat)} (hr : rightS A = true) (h : 2 ≤ (kindsS A A.length).length) : 2 ≤ mostS A (inputsS A) := by
  have hp := kinds_pair A A.length
  have hlt := (kinds_lt A A.length).1
  match hks : kindsS A A.length, h with
  | a :: b :: l, _ =>
    rw [hks] at hp hlt
    have hab : sameRow A a b = false := by rw [List.pairwise_cons] at hp; exact hp.1 b (by simp)
    obtain ⟨j, hj, h2⟩ := divides hr (hlt a (by simp)) (hlt b (by simp)) hab
    have := (most_ge A (inputsS A)).2 j hj
    omega
theorem groups_len {A : List (List Nat)} {l : List Int} {k : Int} : (groupsS A l k).length ≤ A.length := by
  unfold groupsS
  split
  · rw [gfold_len2]
    have L := gfold_law A k.toNat (alivePs A.length l)
    have hn : ((gfold A k.toNat (alivePs A.length l)).1).length ≤ (alivePs A.length l).length := by
      have hc := sel_sum A k.toNat (nodup_of_sorted L.sorted) (alivePs A.length l) (fun p hp => (L.vals _).2 ⟨p, hp, rfl⟩)
      have hpos : ∀ v ∈ (gfold A k.toNat (alivePs A.length l)).1, 1 ≤ (sel A k.toNat (alivePs A.length l) v).length := fun v hv => by
        obtain ⟨p, hp, e⟩ := (L.vals v).1 hv
        exact List.length_pos_of_mem (a := p) (List.mem_filter.2 ⟨hp, by simpa using e⟩)
      have gen : ∀ vs : List Nat, (∀ v ∈ vs, 1 ≤ (sel A k.toNat (alivePs A.length l) v).length) → vs.length ≤ (vs.map fun v => (sel A k.toNat (alivePs A.length l) v).length).sum := by
        intro vs
        induction vs with
        | nil => intro _; simp
        | cons v vs ih => intro h; simp only [List.map_cons, List.sum_cons, List.length_cons]; have := h v (by simp); have := ih (fun u hu => h u (by simp [hu])); omega
      have := gen _ hpos
      omega
    have := alive_len A.length l
    omega
  · simp
theorem most_le (A : List (List Nat)) : ∀ n, mostS A n ≤ max 1 A.length := by
  intro n
  induction n with
  | zero => simp [mostS]; omega
  | succ n ih => rw [most_succ]; have := groups_len (A := A) (l := upTo A.length) (k := n); omega
end Go.Proofs.YtoiemkifgdnhaaaGreatDoor
namespace Go.Proofs.YtoiemkifgdnhaaaGreatDoor
open Go Go.RowKit
theorem own_slice {w : World} {b : Nat} {e : TypeId} {s n : Nat} {v : Value} {xs : List Value} (h : w.ownsRow b e s v n xs) : ∃ ao cap, v = .slice ao n cap := by
  rcases own_cases h with ⟨h1, h2⟩ | ⟨g, cap, h1, _⟩
  · exact ⟨none, 0, by rw [h1, h2]⟩
  · exact ⟨_, cap, h1⟩
theorem Lists.slice {w : World} {B : Nat} {o : Value} {ls : List (List Int)} (h : Lists w B o ls) : ∃ ao cap, o = .slice ao ls.length cap := by
  obtain ⟨os, h1, _⟩ := h; exact own_slice h1
theorem pInts_ok {l : List Nat} {n : Nat} (hl : ∀ p ∈ l, p < n) (hn : n ≤ 1000) : ∀ x ∈ pInts l, -9223372036854775808 ≤ x ∧ x ≤ 9223372036854775807 := by
  intro x hx
  simp only [pInts, List.mem_map] at hx
  obtain ⟨p, hp, rfl⟩ := hx
  have := hl p hp
  omega
theorem ValRows.inputs {w : World} {v : Value} {A : List (List Nat)} (h : ValRows w v A) : inputsS A ≤ 1000 := by
  obtain ⟨ao, cap, rfl, h1⟩ := h.1.open
  cases A with
  | nil => simp [inputsS]
  | cons l A =>
    obtain ⟨b, o, _, _, ra, rc, _, hv⟩ := h.1.at (k := 0) (by simp)
    simpa [inputsS] using hv.2.1
theorem upTo_p (n : Nat) : upTo n = pInts (List.range n) := rfl
theorem upTo_len (n : Nat) : (upTo n).length = n := by simp [upTo]
set_option maxRecDepth 100000 in
set_option maxHeartbeats 1000000 in
theorem lower_call (w : World) (a : Value) (A : List (List Nat)) (ha : ValRows w a A) (hG : G w) (hn : A.length ≤ 500) (hr : rightS A = true) :
    Calls Tryz.prog 38 #[a] w fun e w' => e = .returned (.int .i64 (lowerS A)) ∧ Below w.heap.size w w' := by
  have HA := Lib.hid ha; have HG := Lib.hid hG; have HR := Lib.hid hr
  obtain ⟨ao, ac, rfl, ha1⟩ := ha.1.open
  obtain ⟨i0, hi, hz0, hz1, hz2⟩ := info_parts info_int
  have Hi := Lib.hid hi; have Hz0 := Lib.hid hz0; have Hz1 := Lib.hid hz1; have Hz2 := Lib.hid hz2
  have hs0 : w.heap.size < w.heap.size + 1 := by omega
  clear ha hG hr hi hz0 hz1 hz2
  go_enter Tryz.func38, Tryz.ntmps38
  go_wp2
  go_loopw [3, 4, 11] (fun ks p4 i wr => ∃ j : Nat, j ≤ A.length ∧ i = .int .i64 j ∧ wr.ownsRow (w.heap.size + 1) 3 1 ks (kindsS A j).length (ci (pInts (kindsS A j))) ∧ wr.cell? ⟨w.heap.size, 0, none⟩ = some (.slice ao A.length ac) ∧ Below w.heap.size w wr ∧ w.heap.size + 1 ≤ wr.heap.size) (fun _ _ i _ => A.length - (intOf i).toNat)
  case atStart => exact ⟨0, by omega, rfl, World.ownsRow_nil _ _ _ _, by simp, below1 _ _, by simp⟩
  case round =>
    obtain ⟨j, hj, rfl, ho, hbx, hbel, hsz⟩ := hrel
    have HO := Lib.hid ho; have HBX := Lib.hid hbx; have HBL := Lib.hid hbel; have HSZ := Lib.hid hsz
    obtain ⟨ka, kc, rfl⟩ := own_slice ho
    have hkl := (kinds_lt A j)
    by_cases hlt : j < A.length
    · have q1 : (j:Int) < A.length := by omega
      have q0 : 0 ≤ (j:Int) := by omega
      have hkl1 := hkl.1
      have hkl2 := hkl.2
      have HKL := Lib.hid hkl1
      have hsucc := kinds_succ A j
      have HS := Lib.hid hsucc
      clear ho hbx hbel hsz hkl hkl1 hsucc
      generalize hks : kindsS A j = ks at *
      cases hany : ks.any (fun k => sameRow A k j) with
      | true =>
        have HANY := Lib.hid hany; clear hany
        go_wp2_with (go_at_call 67; refine (contains_low _ _ ks A j w.heap.size wr.heap.size ao ac (own_ints (n := ks.length) ((own_below HO.out (below1 _ _))) (by rw [pInts_len]; omega) (pInts_ok HKL.out (by omega))) (HA.out.mono (bthen HBL.out (below1 _ _))) (fun k hk => by have := HKL.out k hk; omega) hlt (by have := HSZ.out; simp; omega) (by simp) ((olds (below1 _ _) _ _ (by have := HSZ.out; omega)).trans HBX.out) (by simp)).mono ?_; rintro e w1 ⟨rfl, hbw⟩; rw [HANY.out])
        go_roundw
        case rel =>
          have h1 : Below wr.heap.size wr w1 := bthen (below1 _ _) hbw
          refine ⟨j + 1, by omega, by go_num, ?_, (olds h1 _ _ (by have := HSZ.out; omega)).trans HBX.out, bthen HBL.out h1, Nat.le_trans HSZ.out h1.size⟩
          rw [HS.out, HANY.out]; exact own_below HO.out h1
        case measure => simp [intOf]; omega
      | false =>
        have HANY := Lib.hid hany; clear hany
        go_wp2_with (first | (go_at_call 67; refine (contains_low _ _ ks A j w.heap.size wr.heap.size ao ac (own_ints (n := ks.length) ((own_below HO.out (below1 _ _))) (by rw [pInts_len]; omega) (pInts_ok HKL.out (by omega))) (HA.out.mono (bthen HBL.out (below1 _ _))) (fun k hk => by have := HKL.out k hk; omega) hlt (by have := HSZ.out; simp; omega) (by simp) ((olds (below1 _ _) _ _ (by have := HSZ.out; omega)).trans HBX.out) (by simp)).mono ?_; rintro e w1 ⟨rfl, hbw⟩; rw [HANY.out]; have hc1 := olds hbw; have hzz := hbw.size) | (at_builtin; refine wpList_app rfl (.tmp 18) (.tmp 20) 26 rfl (w.heap.size + 1) 3 i0 (.int .i64 0) 1 8 und_ints Hi.out Hz0.out Hz1.out Hz2.out rfl (by decide) _ _ _ rfl ((own_below HO.out (bthen (below1 _ _) hbw)).alloc _) ⟨w1.heap.size, 0, none⟩ 1 1 [.int .i64 j] rfl rfl (cell_one_new _ _ _) (by intro q hq; simp at hq; subst hq; rfl) (by unfold maxLen; omega) (by omega) (by have := HSZ.out; simp at hzz ⊢; omega) ?_; intro v' w9 hown hgr hfr))
        have h1 : Below wr.heap.size wr w1 := bthen (below1 _ _) hbw
        have H1 := Lib.hid h1; have HOWN := Lib.hid hown; have HGR := Lib.hid hgr
        clear h1 hown hgr
        go_roundw
        case rel =>
          have hbl : Below w.heap.size w w9 := ((bthen HBL.out H1.out).alloc (bthen HBL.out H1.out).size _).grown HGR.out (by have := (bthen HBL.out H1.out).size; simp; omega) (fun g hg => by have := (HO.out.lt g hg).1; omega)
          have hsz9 : w1.heap.size ≤ w9.heap.size := by have := HGR.out.size; simp at this; omega
          have hsz1 := H1.out.size
          refine ⟨j + 1, by omega, by go_num, ?_, ?_, hbl, by have := HSZ.out; omega⟩
          · rw [HS.out, HANY.out]; simpa [ci, pInts] using HOWN.out
          · have hb1 : (w1.alloc (.cells #[.int .i64 j] 3)).cell? ⟨w.heap.size, 0, none⟩ = some (.slice ao A.length ac) :=
              (olds (below1 w1 _) _ _ (by have := HSZ.out; omega)).trans ((olds H1.out _ _ (by have := HSZ.out; omega)).trans HBX.out)
            exact World.grownBy.cell HGR.out hb1 (fun e => Nat.not_succ_le_self w.heap.size (HO.out.lt w.heap.size e.symm).1)
        case measure => simp [intOf]; omega
    · obtain rfl : j = A.length := by omega
      have hklen := hkl.2
      obtain ⟨t, ht⟩ : ∃ t, t = (kindsS A A.length).length := ⟨_, rfl⟩
      rw [← ht] at hklen
      rw [← ht]
      have HT := Lib.hid ht
      clear ho hbel hsz hkl ht
      go_wp2_with (go_at_call 47; refine (inputs_call _ _ A (HA.out.mono HBL.out)).mono ?_; rintro e w1 ⟨rfl, hb1⟩)
      have HB1 := Lib.hid (bthen HBL.out hb1)
      have hs1 : w.heap.size < w1.heap.size := by have := hb1.size; have := HSZ.out; omega
      have HBX1 := Lib.hid ((olds hb1 _ _ (by have := HSZ.out; omega)).trans HBX.out)
      clear hb1
      go_loopw [5, 6, 25] (fun m5 u6 i wq => ∃ j : Nat, j ≤ inputsS A ∧ i = .int .i64 j ∧ m5 = .int .i64 (mostS A j : Nat) ∧ Below w1.heap.size w1 wq) (fun _ _ i _ => inputsS A - (intOf i).toNat)
      case atStart => exact ⟨0, by omega, rfl, rfl, Below.refl _ _⟩
      case round =>
        obtain ⟨j, hj, rfl, rfl, hbel⟩ := hrel
        have HBQ := Lib.hid hbel
        have hm1 := most_ge A (inputsS A)
        have hml := most_le A j
        have hml2 := most_le A (inputsS A)
        have hin := HA.out.inputs
        by_cases hlt : j < inputsS A
        · have q1 : (j:Int) < inputsS A := by omega
          have q0 : 0 ≤ (j:Int) := by omega
          have hbx2 : wr.cell? ⟨w.heap.size, 0, none⟩ = some (.slice ao A.length ac) := (olds hbel _ _ hs1).trans HBX1.out
          have hsq : w.heap.size < wr.heap.size := Nat.lt_of_lt_of_le hs1 hbel.size
          have HAQ := Lib.hid (HA.out.mono (HB1.out.trans (hbel.mono HB1.out.size)))
          have HGQ := Lib.hid (HG.out.mono (HB1.out.trans (hbel.mono HB1.out.size)))
          have hgl := groups_len (A := A) (l := upTo A.length) (k := j)
          have hsu := most_succ A j
          generalize hM : mostS A j = M at *
          generalize hgs : groupsS A (upTo A.length) j = gs at *
          have HM := Lib.hid hM; have HGS := Lib.hid hgs; have HSU := Lib.hid hsu
          clear hbel hm1 hbx hM hgs hsu
          go_wp2
          go_region_held3 (fun w' => ∀ b o, b < wr.heap.size → w'.cell? ⟨b, o, none⟩ = wr.cell? ⟨b, o, none⟩) (first | exact olds (Below.refl _ _) | exact olds ((Below.refl _ _).drew) | exact olds ‹Below wr.heap.size wr _›)  (first | (go_at_call 44; refine (all_call _ _ A (HAQ.out.mono (Below.refl _ _).drew)).mono ?_; rintro e w2 ⟨v2, rfl, ho2, hb2⟩; have hbq2 := bdrew hb2) | (go_at_call 18; refine (Groups_call w2 _ _ A (upTo A.length) j (HAQ.out.mono hbq2) (own_ints (n := A.length) (by rw [upTo_p] at ho2 ⊢; exact ho2) (by rw [upTo_len]; omega) (by rw [upTo_p]; exact pInts_ok (fun p hp => by simpa using hp) (by omega))) (HGQ.out.mono hbq2) hn).mono ?_; rintro e w3 ⟨o3, rfl, hl3, hb3⟩; obtain ⟨a3, c3, rfl⟩ := hl3.slice; rw [HGS.out]; have hbq3 := bthen hbq2 hb3))
          go_wp2
          go_roundw
          case rel => exact ⟨j + 1, by omega, by go_num, by rw [HSU.out]; congr 1; omega, bthen HBQ.out hbq3⟩
          case measure => simp [intOf]; omega
        · obtain rfl : j = inputsS A := by omega
          have HM1 := Lib.hid hm1
          have hM2 := fun h => most_two (A := A) HR.out h
          have HM2 := Lib.hid hM2
          have hlow : climb (mostS A (inputsS A)) t t 1 0 = lowerS A := by rw [HT.out]; rfl
          have hm2' : 2 ≤ t → 2 ≤ mostS A (inputsS A) := by rw [HT.out]; exact hM2
          generalize mostS A (inputsS A) = M at *
          have HLOW := Lib.hid hlow; have HM2' := Lib.hid hm2'
          clear hM2 hm1 hlow hm2' HM2 HM1
          go_wp2
          have hbfin := HB1.out.trans (hbel.mono HB1.out.size)
          have HBF := Lib.hid hbfin
          clear hbfin hbel hbx
          go_loopw [7, 8] (fun n7 r8 wz => ∃ n reach f : Nat, n7 = .int .i64 n ∧ r8 = .int .i64 reach ∧ climb M t f reach n = lowerS A ∧ t ≤ reach + f ∧ 1 ≤ reach ∧ n + 1 ≤ reach ∧ reach ≤ 250000 ∧ wr = wz) (fun _ r8 _ => t - (intOf r8).toNat)
          case atStart => exact ⟨0, 1, t, rfl, rfl, HLOW.out, by omega, by omega, by omega, by omega, rfl⟩
          case round =>
            obtain ⟨n, reach, f, rfl, rfl, hc, hf, hr1, hn1, hr2, rfl⟩ := hrel
            have HC := Lib.hid hc
            clear hc
            by_cases hlt : reach < t
            · have q1 : (reach : Int) < t := by omega
              have h2 : 2 ≤ M := HM2'.out (by omega)
              have hMu : M ≤ 500 := by omega
              have hp1 : reach + 1 ≤ reach * M := by
                have := Nat.mul_le_mul_left reach h2; omega
              have hp2 : reach * M ≤ 250000 := by
                have := Nat.mul_le_mul (show reach ≤ 500 by omega) hMu; omega
              have hmul : (reach : Int) * M = ((reach * M : Nat) : Int) := by rw [Int.natCast_mul]
              have hmA : 0 ≤ (reach : Int) * M := by omega
              have hmB : (reach : Int) * M ≤ 250000 := by omega
              have HMUL := Lib.hid hmul
              clear hmul
              go_wp2
              go_roundw
              case rel =>
                rw [HMUL.out]
                obtain ⟨f', rfl⟩ : ∃ f', f = f' + 1 := ⟨f - 1, by omega⟩
                refine ⟨n + 1, reach * M, f', by go_num, by go_num, ?_, by omega, by omega, by omega, hp2, by trivial⟩
                have := HC.out
                rw [climb, if_pos hlt] at this
                exact this
              case measure => rw [HMUL.out]; simp [intOf]; omega
            · go_wp2
              go_ret
              refine ⟨ret_int ?_, HBF.out⟩
              have := HC.out
              rcases f with _ | f
              · rw [climb] at this; rw [this]
              · rw [climb, if_neg hlt] at this; rw [this]
end Go.Proofs.YtoiemkifgdnhaaaGreatDoor
namespace Go.Proofs.YtoiemkifgdnhaaaGreatDoor
open Go Go.RowKit
def permS (A : List (List Nat)) (h : Int) : Int := if rightS A = false ∨ h < 0 ∨ 6 < h then 1 else if 12 < A.length ∨ 10 < inputsS A then 2 else 0
set_option maxHeartbeats 400000 in
theorem permitted_call (w : World) (a : Value) (A : List (List Nat)) (h : Int) (ha : ValRows w a A) : Calls Tryz.prog 35 #[a, .int .i64 h] w
    fun e w' => e = .returned (.int .i64 (permS A h)) ∧ Below w.heap.size w w' := by
  have HA := Lib.hid ha
  obtain ⟨ao, ac, rfl, ha1⟩ := ha.1.open
  have hin := ha.inputs
  have hal := ha.2
  clear ha
  cases hr : rightS A with
  | false =>
    have HR := Lib.hid hr
    go_enter Tryz.func35, Tryz.ntmps35
    go_wp2_with (go_at_call 46; refine (right_call _ _ A HA.out).mono ?_; rintro e w1 ⟨rfl, hb1⟩; rw [HR.out])
    go_ret
    exact ⟨by rw [permS, if_pos (.inl HR.out)]; rfl, hb1⟩
  | true =>
    have HR := Lib.hid hr
    by_cases h0 : h < 0
    · go_enter Tryz.func35, Tryz.ntmps35
      go_wp2_with (go_at_call 46; refine (right_call _ _ A HA.out).mono ?_; rintro e w1 ⟨rfl, hb1⟩; rw [HR.out])
      go_ret
      exact ⟨by rw [permS, if_pos (.inr (.inl h0))]; rfl, hb1⟩
    · by_cases h6 : 6 < h
      · go_enter Tryz.func35, Tryz.ntmps35
        go_wp2_with (go_at_call 46; refine (right_call _ _ A HA.out).mono ?_; rintro e w1 ⟨rfl, hb1⟩; rw [HR.out])
        go_ret
        exact ⟨by rw [permS, if_pos (.inr (.inr h6))]; rfl, hb1⟩
      · by_cases h12 : 12 < A.length
        · have g12 : (12 : Int) < A.length := by omega
          go_enter Tryz.func35, Tryz.ntmps35
          go_wp2_with (go_at_call 46; refine (right_call _ _ A HA.out).mono ?_; rintro e w1 ⟨rfl, hb1⟩; rw [HR.out])
          go_ret
          exact ⟨by rw [permS, if_neg (by rw [HR.out]; simp; omega), if_pos (.inl h12)]; rfl, hb1⟩
        · have g12 : ¬ (12 : Int) < A.length := by omega
          by_cases h10 : 10 < inputsS A
          · have g10 : (10 : Int) < inputsS A := by omega
            go_enter Tryz.func35, Tryz.ntmps35
            go_wp2_with (first | (go_at_call 46; refine (right_call _ _ A HA.out).mono ?_; rintro e w1 ⟨rfl, hb1⟩; rw [HR.out]) | (go_at_call 47; refine (inputs_call _ _ A (HA.out.mono hb1)).mono ?_; rintro e w2 ⟨rfl, hb2⟩))
            go_ret
            exact ⟨by rw [permS, if_neg (by rw [HR.out]; simp; omega), if_pos (.inr h10)]; rfl, bthen hb1 hb2⟩
          · have g10 : ¬ (10 : Int) < inputsS A := by omega
            go_enter Tryz.func35, Tryz.ntmps35
            go_wp2_with (first | (go_at_call 46; refine (right_call _ _ A HA.out).mono ?_; rintro e w1 ⟨rfl, hb1⟩; rw [HR.out]) | (go_at_call 47; refine (inputs_call _ _ A (HA.out.mono hb1)).mono ?_; rintro e w2 ⟨rfl, hb2⟩))
            go_ret
            exact ⟨by rw [permS, if_neg (by rw [HR.out]; simp; omega), if_neg (by omega)]; rfl, bthen hb1 hb2⟩
/-- The inputs that divide. -/
def usefulS (A : List (List Nat)) (n : Nat) : List Nat := (List.range n).filter fun (k : Nat) => decide (1 < (groupsS A (upTo A.length) k).length)
theorem useful_succ (A : List (List Nat)) (n : Nat) : usefulS A (n + 1) = usefulS A n ++ (if 1 < (groupsS A (upTo A.length) n).length then [n] else []) := by
  unfold usefulS; rw [List.range_succ, List.filter_append]
  congr 1
  by_cases h : 1 < (groupsS A (upTo A.length) n).length <;> simp [h]
theorem useful_len (A : List (List Nat)) (n : Nat) : (usefulS A n).length ≤ n := by
  have := List.length_filter_le (fun (k : Nat) => decide (1 < (groupsS A (upTo A.length) k).length)) (List.range n)
  simpa [usefulS] using this
set_option maxRecDepth 100000 in
set_option maxHeartbeats 1000000 in
theorem Useful_call (w : World) (a : Value) (A : List (List Nat)) (ha : ValRows w a A) (hG : G w) (hn : A.length ≤ 500) :
    Calls Tryz.prog 21 #[a] w (OwnB w.heap.size (pInts (usefulS A (inputsS A))) w) := by
  have HA := Lib.hid ha; have HG := Lib.hid hG
  obtain ⟨ao, ac, rfl, ha1⟩ := ha.1.open
  have hin := ha.inputs
  obtain ⟨i0, hi, hz0, hz1, hz2⟩ := info_parts info_int
  have Hi := Lib.hid hi; have Hz0 := Lib.hid hz0; have Hz1 := Lib.hid hz1; have Hz2 := Lib.hid hz2
  clear ha hG hi hz0 hz1 hz2
  go_enter Tryz.func21, Tryz.ntmps21
  go_wp2_with (go_at_call 47; refine (inputs_call _ _ A HA.out).mono ?_; rintro e w1 ⟨rfl, hb1⟩)
  have HB1 := Lib.hid hb1; clear hb1
  go_loopw [3, 4, 7] (fun us u i wr => ∃ j : Nat, j ≤ inputsS A ∧ i = .int .i64 j ∧ wr.ownsRow w.heap.size 3 1 us (usefulS A j).length (ci (pInts (usefulS A j))) ∧ Below w.heap.size w wr) (fun _ _ i _ => inputsS A - (intOf i).toNat)
  case atStart => exact ⟨0, by omega, rfl, World.ownsRow_nil _ _ _ _, HB1.out⟩
  case round =>
    obtain ⟨j, hj, rfl, ho, hbel⟩ := hrel
    have HO := Lib.hid ho; have HBL := Lib.hid hbel
    have hul := useful_len A j
    obtain ⟨ka, kc, rfl⟩ := own_slice ho
    by_cases hlt : j < inputsS A
    · have q1 : (j:Int) < inputsS A := by omega
      have q0 : 0 ≤ (j:Int) := by omega
      have HAQ := Lib.hid (HA.out.mono hbel)
      have HGQ := Lib.hid (HG.out.mono hbel)
      have hgl := groups_len (A := A) (l := upTo A.length) (k := j)
      have hsu := useful_succ A j
      generalize hU : usefulS A j = U at *
      generalize hgs : groupsS A (upTo A.length) j = gs at *
      have HU := Lib.hid hU; have HGS := Lib.hid hgs; have HSU := Lib.hid hsu
      clear hbel ho hU hgs hsu
      by_cases h2 : 1 < gs.length
      · have q2 : (1:Int) < gs.length := by omega
        go_wp2_with (first | (go_at_call 44; refine (all_call _ _ A HAQ.out).mono ?_; rintro e w2 ⟨v2, rfl, ho2, hbq2⟩) | (go_at_call 18; refine (Groups_call w2 _ _ A (upTo A.length) j (HAQ.out.mono hbq2) (own_ints (n := A.length) (by rw [upTo_p] at ho2 ⊢; exact ho2) (by rw [upTo_len]; omega) (by rw [upTo_p]; exact pInts_ok (fun p hp => by simpa using hp) (by omega))) (HGQ.out.mono hbq2) hn).mono ?_; rintro e w3 ⟨o3, rfl, hl3, hb3⟩; obtain ⟨a3, c3, rfl⟩ := hl3.slice; rw [HGS.out]; have hbq3 := bthen hbq2 hb3) | (at_builtin; refine wpList_app rfl (.tmp 17) (.tmp 19) 26 rfl w.heap.size 3 i0 (.int .i64 0) 1 8 und_ints Hi.out Hz0.out Hz1.out Hz2.out rfl (by decide) _ _ _ rfl ((own_below HO.out hbq3).alloc _) ⟨w3.heap.size, 0, none⟩ 1 1 [.int .i64 j] rfl rfl (cell_one_new _ _ _) (by intro q hq; simp at hq; subst hq; rfl) (by unfold maxLen; omega) (by omega) (by have := HBL.out.size; have := hbq3.size; simp; omega) ?_; intro v' w9 hown hgr hfr))
        have H1 := Lib.hid hbq3; have HOWN := Lib.hid hown; have HGR := Lib.hid hgr
        clear hbq3 hown hgr hb3 hl3 ho2 hbq2
        go_roundw
        case rel =>
          refine ⟨j + 1, by omega, by go_num, ?_, ((bthen HBL.out H1.out).alloc (bthen HBL.out H1.out).size _).grown HGR.out (by have := (bthen HBL.out H1.out).size; simp; omega) (fun g hg => (HO.out.lt g hg).1)⟩
          rw [HSU.out, if_pos h2]; simpa [ci, pInts] using HOWN.out
        case measure => simp [intOf]; omega
      · have q2 : ¬ (1:Int) < gs.length := by omega
        go_wp2_with (first | (go_at_call 44; refine (all_call _ _ A HAQ.out).mono ?_; rintro e w2 ⟨v2, rfl, ho2, hbq2⟩) | (go_at_call 18; refine (Groups_call w2 _ _ A (upTo A.length) j (HAQ.out.mono hbq2) (own_ints (n := A.length) (by rw [upTo_p] at ho2 ⊢; exact ho2) (by rw [upTo_len]; omega) (by rw [upTo_p]; exact pInts_ok (fun p hp => by simpa using hp) (by omega))) (HGQ.out.mono hbq2) hn).mono ?_; rintro e w3 ⟨o3, rfl, hl3, hb3⟩; obtain ⟨a3, c3, rfl⟩ := hl3.slice; rw [HGS.out]; have hbq3 := bthen hbq2 hb3))
        go_roundw
        case rel =>
          refine ⟨j + 1, by omega, by go_num, ?_, bthen HBL.out hbq3⟩
          rw [HSU.out, if_neg h2, List.append_nil]; exact own_below HO.out hbq3
        case measure => simp [intOf]; omega
    · obtain rfl : j = inputsS A := by omega
      clear hbel ho
      go_wp2
      go_ret
      exact ⟨_, rfl, by rw [pInts_len]; exact HO.out, HBL.out⟩
end Go.Proofs.YtoiemkifgdnhaaaGreatDoor
namespace Go.Proofs.YtoiemkifgdnhaaaGreatDoor
open Go Go.RowKit
structure PlanS where
  asks : List Ask
  depth : Nat
  lower : Nat
def fullS (A : List (List Nat)) : Nat := 2 ^ A.length - 1
/-- Make: the error, and the plan. -/
def makeE (A : List (List Nat)) (h : Int) : Int := if permS A h ≠ 0 then permS A h else if h < (dep A (inputsS A) (fullS A) : Nat) then 16 else 0
def makeP (A : List (List Nat)) : PlanS := ⟨planF A (inputsS A) 13 (fullS A) 0, dep A (inputsS A) (fullS A), lowerS A⟩
def makeS (A : List (List Nat)) (h : Int) : PlanS := if makeE A h = 0 then makeP A else ⟨[], 0, 0⟩
/-- A plan of the call's own. -/
def OwnPlan (w : World) (B : Nat) (v : Value) (p : PlanS) : Prop := ∃ a os, v = .agg #[a, .int .i64 p.depth, .int .i64 p.lower] ∧ AsksAt w B a p.asks os
def MakePost (A : List (List Nat)) (h : Int) (w : World) (en : Ending) (w' : World) : Prop :=
  ∃ v, en = .returned (.tuple #[v, .int .i64 (makeE A h)]) ∧ OwnPlan w' w.heap.size v (makeS A h) ∧ Below w.heap.size w w'
theorem frozen_cells {w : World} {b : Nat} {cs : Array Value} {t : TypeId} (h : w.heap[b]? = some (.cells cs t)) (o : Nat) : w.frozen? ⟨b, o, none⟩ = false := by simp [World.frozen?, h]
theorem AsksAt.setlow {w : World} {B b o : Nat} {v u : Value} {qs : List Ask} {os : List (Nat × Value × Value)} (h : AsksAt w B v qs os) (hb : b < B) : AsksAt (w.setCell ⟨b, o, none⟩ u) B v qs os :=
  h.kept fun _ _ _ _ _ h => ownsRow_setCell_other h (fun e => by have := (h.lt b e).1; omega) u
theorem AsksAt.base {w : World} {B B' : Nat} {v : Value} {qs : List Ask} {os : List (Nat × Value × Value)} (h : AsksAt w B v qs os) (hb : B' ≤ B) : AsksAt w B' v qs os :=
  ⟨own_base h.own hb, h.len, fun i o a ho ha => by
    obtain ⟨h1, ⟨zs, h2, h3⟩, h4⟩ := h.inn i o a ho ha
    exact ⟨h1, ⟨zs, h2, own_base h3 hb⟩, own_base h4 hb⟩, h.ap1, h.ap2⟩
theorem perm_ok {A : List (List Nat)} {h : Int} (hp : permS A h = 0) : rightS A = true ∧ 0 ≤ h ∧ h ≤ 6 ∧ A.length ≤ 12 ∧ inputsS A ≤ 10 := by
  unfold permS at hp
  split at hp
  · omega
  · rename_i h1
    split at hp
    · omega
    · rename_i h2
      refine ⟨?_, ?_, ?_, ?_, ?_⟩
      · cases hr : rightS A with
        | true => rfl
        | false => exact absurd (.inl hr) h1
      all_goals omega
theorem ok_of {A : List (List Nat)} (hr : rightS A = true) (h1 : A.length ≤ 12) (h2 : inputsS A ≤ 10) : Ok A (inputsS A) :=
  ⟨h1, h2, fun l hl => ⟨(right_rows hr l hl).1, fun x hx => by have := (right_rows hr l hl).2 x hx; omega⟩, fun _ => rfl, fun h => by rw [h]; rfl⟩
theorem full_val {A : List (List Nat)} (h : A.length ≤ 12) : IntKind.u64.wrap (IntKind.u64.wrap ((2 : Int) ^ min A.length 64) - 1) = ((fullS A : Nat) : Int) ∧ fullS A < 2 ^ A.length := by
  have hp : 0 < 2 ^ A.length := Nat.pow_pos (by omega)
  have hle : 2 ^ A.length ≤ 2 ^ 12 := Nat.pow_le_pow_right (by omega) h
  have e0 : ((2:Int) ^ min A.length 64) = ((2 ^ A.length : Nat) : Int) := by rw [show min A.length 64 = A.length by omega]; push_cast; rfl
  unfold fullS
  rw [e0]
  generalize 2 ^ A.length = t at *
  refine ⟨?_, by omega⟩
  rw [IntKind.wrap_u64, IntKind.wrap_u64]; omega
set_option maxRecDepth 100000 in
set_option maxHeartbeats 1000000 in
theorem Make_call (w : World) (a : Value) (A : List (List Nat)) (h : Int) (ha : ValRows w a A) (hG : G w) (hT : GT w) (hn : A.length ≤ 500) :
    Calls Tryz.prog 12 #[a, .int .i64 h] w (MakePost A h w) := by
  have HA := Lib.hid ha; have HG := Lib.hid hG; have HT := Lib.hid hT
  obtain ⟨ao, ac, rfl, ha1⟩ := ha.1.open
  have hin := ha.inputs
  clear ha hG hT
  obtain ⟨pe, hpe⟩ : ∃ pe, pe = permS A h := ⟨_, rfl⟩
  by_cases hp : pe = 0
  · subst hp
    have HPE := Lib.hid hpe
    clear hpe
    have hmm := @run_makeMap Tryz.prog
    go_enter Tryz.func12, Tryz.ntmps12
    go_wp2_with (go_at_call 35; refine (permitted_call _ _ A h (HA.out.mono (below1 _ _))).mono ?_; rintro e w1 ⟨rfl, hb1⟩; rw [← HPE.out]; have hc := olds hb1; have hf := oldf hb1)
    obtain ⟨hr, hh0, hh6, hA12, hI10⟩ := perm_ok HPE.out.symm
    have hok := ok_of hr hA12 hI10
    obtain ⟨hfv, hflt⟩ := full_val hA12
    rw [hfv]
    have hb10 := bthen (below1 _ _) hb1
    have hsz1 := hb1.size
    simp only [World.size_alloc] at hsz1
    obtain ⟨q, hq⟩ : ∃ q, q = w1.heap.size + 1 := ⟨_, rfl⟩
    rw [← hq]
    have hPX : PX w ((w1.alloc (.map #[] 0)).alloc (.cells #[.slice ao A.length ac, .map (some w1.heap.size), .slice none 0 0, .int .i64 0, .int .i64 0] 72)) q w1.heap.size A (inputsS A) (.slice none 0 0) [] [] := by
      subst hq
      refine ⟨⟨(hb10.alloc (by omega) _).alloc (by simp; omega) _, by omega, by omega, by simp, HG.out, HT.out, ⟨ao, ac, by simp, HA.out⟩, by simp, ⟨[], ⟨#[], 0, ?_, by simp⟩, fun n v hv => by simp [lk] at hv⟩⟩, fun o => by simp, by simp, by simp, AsksAt.nil _ _⟩
      exact ((below1 (w1.alloc (.map #[] 0)) _).block w1.heap.size (by simp)).trans (heap_alloc_new w1 _)
    have hres : ((w1.alloc (.map #[] 0)).alloc (.cells #[.slice ao A.length ac, .map (some w1.heap.size), .slice none 0 0, .int .i64 0, .int .i64 0] 72)).heap[w.heap.size]? = some (.cells #[.slice none 0 0, .int .i64 0, .int .i64 0] 29) :=
      ((below2 w1 _ _).block w.heap.size (by omega)).trans ((hb1.block w.heap.size (by simp)).trans (heap_alloc_new w _))
    have hWs : q < ((w1.alloc (.map #[] 0)).alloc (.cells #[.slice ao A.length ac, .map (some w1.heap.size), .slice none 0 0, .int .i64 0, .int .i64 0] 72)).heap.size := by rw [hq]; simp
    obtain ⟨W0, hW0⟩ : ∃ W0, W0 = ((w1.alloc (.map #[] 0)).alloc (.cells #[.slice ao A.length ac, .map (some w1.heap.size), .slice none 0 0, .int .i64 0, .int .i64 0] 72)) := ⟨_, rfl⟩
    rw [← hW0] at hPX hres hWs
    rw [← hW0]
    have hrq : w.heap.size < w1.heap.size := by omega
    have hqr : w1.heap.size < q := by omega
    clear hc hf hb1 hb10 hfv hmm hW0 hq
    refine (depth_call A _ q _ w hok 12 (fullS A) W0 (bits_len _) hflt hPX.p).mono ?_
    rintro e w2 ⟨rfl, hg2, hm2⟩
    have hPX2 := hPX.mapped hg2 hm2
    have hres2 : w2.heap[w.heap.size]? = some (.cells #[.slice none 0 0, .int .i64 0, .int .i64 0] 29) := (hg2.block w.heap.size (by omega) (by simp; omega)).trans hres
    have hz2 := hg2.size
    have HPX2 := Lib.hid hPX2; have HRES2 := Lib.hid hres2; have HOK := Lib.hid hok
    have hd13 := dep_le A (inputsS A) (fullS A)
    have HR := Lib.hid hr
    clear hPX hPX2 hg2 hm2 hok hr hres
    obtain ⟨d, hd⟩ : ∃ d, d = dep A (inputsS A) (fullS A) := ⟨_, rfl⟩
    rw [← hd] at hd13
    rw [← hd]
    have HD := Lib.hid hd
    clear hd
    by_cases hlt : h < (d : Int)
    · have k0 : w2.cell? ⟨w.heap.size, 0, none⟩ = some (.slice none 0 0) := cell_of_row _ _ _ _ _ _ HRES2.out
      have k1 : w2.cell? ⟨w.heap.size, 1, none⟩ = some (.int .i64 0) := cell_of_row _ _ _ _ _ _ HRES2.out
      have k2 : w2.cell? ⟨w.heap.size, 2, none⟩ = some (.int .i64 0) := cell_of_row _ _ _ _ _ _ HRES2.out
      have kf : ∀ o, w2.frozen? ⟨w.heap.size, o, none⟩ = false := fun o => frozen_cells HRES2.out o
      clear hres2
      go_wp2
      have he : makeE A h = 16 := by unfold makeE; rw [← HPE.out, if_neg (by simp), ← HD.out, if_pos hlt]
      refine bodyPost_ret (v := .tuple #[.agg #[.slice none 0 0, .int .i64 0, .int .i64 0], .int .i64 16]) ?_ rfl ?_
      · simp [results, Tryz.results12, go_sem, k0, k1, k2, kf]
      · have hb0 := HPX2.out.p.b
        refine ⟨_, by rw [he], ⟨.slice none 0 0, [], ?_, ?_⟩, (by repeat (first | with_reducible exact Below.refl _ _ | with_reducible assumption | with_reducible refine Below.drew ?_ | with_reducible refine Below.alloc ?_ (by first | omega | (simp; done) | (simp; omega)) _ | with_reducible refine Below.setCell ?_ (by first | omega | (simp; done) | (simp; omega)) _))⟩
        · unfold makeS; rw [he]; rfl
        · unfold makeS; rw [he]; exact AsksAt.nil _ _
    · have hql2 : q < w2.heap.size := HPX2.out.p.lt
      have hl12 : A.length ≤ 500 := hn
      go_wp2_with fail
      have hb12 := bits_len (fullS A)
      have hA := ask_call A (inputsS A) q w1.heap.size w HOK.out 12 (fullS A) (.slice none 0 0) [] [] w2 (bits_len _) hflt (by simp; omega) HPX2.out
      refine hA.mono ?_
      clear hA
      rintro e w3 ⟨rfl, v3, os3, hPX3, hF3, hf3⟩
      obtain ⟨a3, c3, rfl⟩ := own_slice hPX3.lie.own
      generalize (if dep A (inputsS A) (fullS A) = 0 then (-1 : Int) else (([] : List Ask).length : Int)) = x9
      have hres3 : w3.heap[w.heap.size]? = some (.cells #[.slice none 0 0, .int .i64 0, .int .i64 0] 29) := (hF3.2.2.2.2 w.heap.size (by omega) (fun h => h.elim (fun h => by omega) (fun h => h.elim (fun h => by omega) (fun h => by simp [Value.ownBlock] at h)))).trans HRES2.out
      have hz3 := hF3.2.2.2.1
      have k0 : w3.cell? ⟨w.heap.size, 0, none⟩ = some (.slice none 0 0) := cell_of_row _ _ _ _ _ _ hres3
      have k1 : w3.cell? ⟨w.heap.size, 1, none⟩ = some (.int .i64 0) := cell_of_row _ _ _ _ _ _ hres3
      have k2 : w3.cell? ⟨w.heap.size, 2, none⟩ = some (.int .i64 0) := cell_of_row _ _ _ _ _ _ hres3
      have kf : ∀ o, w3.frozen? ⟨w.heap.size, o, none⟩ = false := fun o => frozen_cells hres3 o
      have q2 := hPX3.c2
      have q3 := hPX3.c34.1
      have q4 := hPX3.c34.2
      have qf := hPX3.fz
      have qs : q < w3.heap.size := hPX3.p.lt
      have rs : w.heap.size < w3.heap.size := by omega
      have hqR : w.heap.size ≠ q := by omega
      have HPX3 := Lib.hid hPX3
      clear hres2 hres3 hF3 hf3 hPX3
      go_wp2_with ((go_at_call 38; refine (lower_call w3 _ A (HA.out.mono HPX3.out.p.b) (HG.out.mono HPX3.out.p.b) hn HR.out).mono ?_; rintro e w4 ⟨rfl, hb4⟩; have hc4 := olds hb4; have hf4 := oldf hb4))
      all_goals
        have he : makeE A h = 0 := by unfold makeE; rw [← HPE.out, if_neg (by simp), ← HD.out, if_neg (by omega)]
        refine bodyPost_ret (v := .tuple #[.agg #[.slice a3 (planF A (inputsS A) 13 (fullS A) 0).length c3, .int .i64 d, .int .i64 (lowerS A)], .int .i64 0]) ?_ rfl ?_
        · simp [results, Tryz.results12, go_sem, k0, k1, k2, kf, hc4, rs, hqR, Ne.symm hqR]
        · have hb0 := HPX3.out.p.b.trans (hb4.mono HPX3.out.p.b.size)
          refine ⟨_, by rw [he], ?_, (by repeat (first | with_reducible exact Below.refl _ _ | with_reducible assumption | with_reducible refine Below.drew ?_ | with_reducible refine Below.alloc ?_ (by first | omega | (simp; done) | (simp; omega)) _ | with_reducible refine Below.setCell ?_ (by first | omega | (simp; done) | (simp; omega)) _))⟩
          have hP : makeS A h = ⟨planF A (inputsS A) 13 (fullS A) 0, d, lowerS A⟩ := by unfold makeS makeP; rw [if_pos he, ← HD.out]
          rw [hP]
          refine ⟨_, [] ++ os3, rfl, ?_⟩
          refine AsksAt.base (B := q + 1) ?_ (by omega)
          repeat refine AsksAt.setlow ?_ (by omega)
          exact HPX3.out.lie.below hb4
  · have HP := Lib.hid hp; have HPE := Lib.hid hpe
    clear hpe
    go_enter Tryz.func12, Tryz.ntmps12
    go_wp2_with (go_at_call 35; refine (permitted_call _ _ A h (HA.out.mono (below1 _ _))).mono ?_; rintro e w1 ⟨rfl, hb1⟩; rw [← HPE.out]; have hc := olds hb1; have hf := oldf hb1)
    refine bodyPost_ret (v := .tuple #[.agg #[.slice none 0 0, .int .i64 0, .int .i64 0], .int .i64 pe]) ?_ rfl ?_
    · simp [results, Tryz.results12, go_sem, hc]
    · have hb0 := bthen (below1 _ _) hb1
      have he : makeE A h = pe := by unfold makeE; rw [← HPE.out, if_pos HP.out]
      refine ⟨_, by rw [he], ⟨.slice none 0 0, [], ?_, ?_⟩, (by repeat (first | with_reducible exact Below.refl _ _ | with_reducible assumption | with_reducible refine Below.drew ?_ | with_reducible refine Below.alloc ?_ (by first | omega | (simp; done) | (simp; omega)) _ | with_reducible refine Below.setCell ?_ (by first | omega | (simp; done) | (simp; omega)) _))⟩
      · unfold makeS; rw [he, if_neg HP.out]; rfl
      · unfold makeS; rw [he, if_neg HP.out]; exact AsksAt.nil _ _
end Go.Proofs.YtoiemkifgdnhaaaGreatDoor
namespace Go.Proofs.YtoiemkifgdnhaaaGreatDoor
open Go Go.RowKit
abbrev AskI := Int × List Nat × List Int
def a0 : AskI := (0, [], [])
/-- A question's three cells. -/
def AskAt (w : World) (b o : Nat) (q : AskI) : Prop :=
  w.cell? ⟨b, o, none⟩ = some (.int .i64 q.1) ∧ (∃ a c, w.cell? ⟨b, o + 1, none⟩ = some (.slice a q.2.1.length c) ∧ Vals w (.slice a q.2.1.length c) q.2.1) ∧
  (∃ a c, w.cell? ⟨b, o + 2, none⟩ = some (.slice a q.2.2.length c) ∧ Ints w (.slice a q.2.2.length c) q.2.2)
theorem AskAt.mono {w w' : World} {b o : Nat} {q : AskI} (h : AskAt w b o q) (hb : Below w.heap.size w w') (hs : b < w.heap.size) : AskAt w' b o q := by
  obtain ⟨h1, ⟨a, c, h2, h3⟩, ⟨a', c', h4, h5⟩⟩ := h
  exact ⟨by rw [olds hb _ _ hs]; exact h1, ⟨a, c, by rw [olds hb _ _ hs]; exact h2, h3.mono hb⟩, ⟨a', c', by rw [olds hb _ _ hs]; exact h4, h5.mono hb⟩⟩
/-- A slice of questions. -/
def AskRows (w : World) (v : Value) (qs : List AskI) : Prop :=
  Sl w v qs.length 3 (fun k b o => AskAt w b o (qs.getD k a0)) ∧ qs.length ≤ 1000 ∧ ∀ q ∈ qs, -9223372036854775808 ≤ q.1 ∧ q.1 ≤ 9223372036854775807
theorem AskRows.mono {w w' : World} {v : Value} {qs : List AskI} (h : AskRows w v qs) (hb : Below w.heap.size w w') : AskRows w' v qs :=
  ⟨h.1.mono hb fun _ _ _ _ hs he => he.mono hb hs, h.2⟩
theorem AskRows.nil (w : World) : AskRows w (.slice none 0 0) [] := ⟨sl_nil _ _ _, by simp, by simp⟩
def askI (a : Ask) : AskI := ((a.1 : Int), a.2.1, a.2.2)
/-- What a question may hold. -/
structure AskOk (q : Ask) : Prop where
  i : q.1 ≤ 1000
  a : q.2.1.length ≤ 1000 ∧ ∀ x ∈ q.2.1, x ≤ 10
  n : q.2.2.length ≤ 1000 ∧ ∀ x ∈ q.2.2, -9223372036854775808 ≤ x ∧ x ≤ 9223372036854775807
theorem AsksAt.rows {w : World} {B : Nat} {v : Value} {qs : List Ask} {os : List (Nat × Value × Value)} (h : AsksAt w B v qs os) (hl : qs.length ≤ 1000) (hq : ∀ a ∈ qs, AskOk a) : AskRows w v (qs.map askI) := by
  refine ⟨?_, by simpa using hl, fun q hm => ?_⟩
  · rw [List.length_map]
    rcases own_cases h.own with ⟨rfl, h0⟩ | ⟨g, cap, rfl, _, hg, hn, hc⟩
    · rw [h0]; exact sl_nil _ _ _
    · refine ⟨_, cap, rfl, hn, fun _ => ⟨g, 0, rfl, hg, fun k hk => ?_⟩⟩
      have hko : k < os.length := by rw [h.len]; exact hk
      have e1 : (qs.map askI).getD k a0 = askI qs[k] := by simp [List.getD_eq_getElem?_getD, hk]
      show AskAt w g (0 + k * 3) ((qs.map askI).getD k a0)
      rw [e1]
      obtain ⟨k1, ⟨zs, k2, k3⟩, k4⟩ := h.inn k os[k] qs[k] (by simp [hko]) (by simp [hk])
      have ok := hq qs[k] (List.getElem_mem _)
      have q : ∀ j, j < 3 → w.cell? ⟨g, 0 + k * 3 + j, none⟩ = (askC os[k])[j]? := fun j hj => by
        rw [show 0 + k * 3 + j = k * 3 + j by omega, hc _ (by omega), flat3_get _ hj]; simp [hko]
      have hvl : zs.length = qs[k].2.1.length := by rw [← k2]; simp
      have hv := own_vals k3 (by rw [hvl]; exact ok.a.1) (fun z hz => ok.a.2 _ (by rw [← k2]; exact List.mem_map_of_mem hz))
      rw [k2] at hv
      obtain ⟨va, vc, e2⟩ := own_slice k3
      obtain ⟨na, nc, e3⟩ := own_slice k4
      have hi := own_ints k4 (by have := ok.n.1; omega) ok.n.2
      refine ⟨?_, ⟨va, vc, ?_, ?_⟩, ⟨na, nc, ?_, ?_⟩⟩
      · have := q 0 (by omega); simpa [askC, k1, askI] using this
      · have := q 1 (by omega)
        rw [this]; show some os[k].2.1 = _; rw [e2, hvl]; rfl
      · rw [e2, hvl] at hv; exact hv
      · have := q 2 (by omega)
        rw [this]; show some os[k].2.2 = _; rw [e3]; rfl
      · rw [e3] at hi; exact hi
  · simp only [List.mem_map] at hm
    obtain ⟨a, ha, rfl⟩ := hm
    have := (hq a ha).i
    simp only [askI]; omega
/-- A plan's value. -/
structure PlanI where
  asks : List AskI
  depth : Int
  lower : Int
def PlanAt (w : World) (v : Value) (p : PlanI) : Prop := ∃ a, v = .agg #[a, .int .i64 p.depth, .int .i64 p.lower] ∧ AskRows w a p.asks
theorem PlanAt.mono {w w' : World} {v : Value} {p : PlanI} (h : PlanAt w v p) (hb : Below w.heap.size w w') : PlanAt w' v p := by
  obtain ⟨a, h1, h2⟩ := h; exact ⟨a, h1, h2.mono hb⟩
set_option maxHeartbeats 400000 in
theorem follow1_call (x y : Nat) (d : Option Addr) (n B : Nat) (w : World) (hx : x ≤ 10) (hy : y ≤ 10) (hB : B < w.heap.size) (hc : VAt w B 0 x) : Calls Tryz.prog 59 #[va y d n, .pointer (some ⟨B, 0, none⟩)] w
    fun e w' => e = .returned (.bool (x == y)) ∧ Below w.heap.size w w' := by
  obtain ⟨c1, d1, p0, p1, p2, p3, p4, p5, p6⟩ := hc
  simp only [Nat.zero_add] at p1 p2 p3 p4 p5 p6
  go_enter Tryz.func59, Tryz.ntmps59
  go_wp2_with (go_at_call 60; refine (value_equal _ _ _ _ _ _ _ hx hy).mono ?_; rintro e w1 ⟨rfl, hb⟩)
  go_ret
  exact ⟨rfl, bthen (below1 _ _) hb⟩
set_option maxHeartbeats 400000 in
theorem indexFunc_follow (w : World) (a : Value) (xs : List Nat) (x B : Nat) (ha : Vals w a xs) (hx : x ≤ 10) (hB : B < w.heap.size) (hc : VAt w B 0 x) : Calls Tryz.prog 58 #[a, .func (.func 59) #[] #[.pointer (some ⟨B, 0, none⟩)]] w
    fun e w' => e = .returned (.int .i64 (firstAt (fun y => x == y) xs)) ∧ Below w.heap.size w w' := by
  have HA := Lib.hid ha; have HC := Lib.hid hc
  obtain ⟨ao, ac, rfl, ha1⟩ := ha.1.open
  have ha2 := ha.2.1
  clear ha hc
  go_enter Tryz.func58, Tryz.ntmps58
  go_wp2
  go_loopw [5, 8] (fun u i wr => ∃ k : Nat, k ≤ xs.length ∧ i = .int .i64 k ∧ (∀ j, j < k → (x == xs.getD j 0) = false) ∧ Below w.heap.size w wr) (fun _ i _ => xs.length - (intOf i).toNat)
  case atStart => exact ⟨0, by omega, rfl, fun j h => by omega, Below.refl _ _⟩
  case round =>
    obtain ⟨k, hk, rfl, he, hbel⟩ := hrel
    have HR := Lib.hid he; have HBL := Lib.hid hbel
    by_cases hlt : k < xs.length
    · have h1 : (k:Int) < xs.length := by omega
      have h0 : 0 ≤ (k:Int) := by omega
      have va := HA.out.mono hbel
      obtain ⟨b1, o1, rfl, g1, c1, d1, p0, p1, p2, p3, p4, p5, p6⟩ := va.1.at hlt
      have hy : xs.getD k 0 ≤ 10 := getD_le va.2.2 hlt
      clear va he hbel
      generalize hgx : xs.getD k 0 = y at *
      have HX := Lib.hid hgx; clear hgx
      go_wp2_with (go_at_call 59; refine (follow1_call x y _ _ B _ hx hy (Nat.lt_of_lt_of_le hB HBL.out.size) (HC.out.mono HBL.out hB)).mono ?_; rintro e w1 ⟨rfl, hbw⟩)
      · go_ret
        have hx9 : x = y := by simp_all
        exact ⟨ret_int (firstAt_hit HR.out hlt (by rw [HX.out]; simpa using hx9)).symm, bthen HBL.out hbw⟩
      · go_roundw
        case rel =>
          have hx9 : ¬ x = y := by simp_all
          refine ⟨k + 1, by omega, by go_num, fun j hj => ?_, bthen HBL.out hbw⟩
          by_cases hjk : j = k
          · subst hjk; rw [HX.out]; simpa using hx9
          · exact HR.out j (by omega)
        case measure => simp [intOf]; omega
    · clear he hbel
      go_wp2
      go_ret
      obtain rfl : k = xs.length := by omega
      exact ⟨ret_int (firstAt_none HR.out).symm, HBL.out⟩
/-- Whither a reply leads from a question; none: nowhere. -/
def stepS (qs : List AskI) (at_ : Int) (x : Nat) : Option Int :=
  let q := qs.getD at_.toNat a0
  let k := firstAt (fun y => x == y) q.2.1
  if k < 0 ∨ (q.2.2.length : Int) ≤ k then none else
  let n := q.2.2.getD k.toNat 0
  if n ≠ -1 ∧ (n ≤ at_ ∨ (qs.length : Int) ≤ n) then none else some n
def goS (qs : List AskI) : Int → List Nat → Int × Bool
  | at_, [] => (at_, true)
  | at_, x :: xs => if at_ < 0 then (-1, false) else match stepS qs at_ x with | none => (-1, false) | some n => goS qs n xs
def followS (qs : List AskI) (xs : List Nat) : Int × Bool := goS qs (if qs.length = 0 then -1 else 0) xs
end Go.Proofs.YtoiemkifgdnhaaaGreatDoor
namespace Go.Proofs.YtoiemkifgdnhaaaGreatDoor
open Go Go.RowKit
theorem firstAt_lt (p : Nat → Bool) (xs : List Nat) : -1 ≤ firstAt p xs ∧ firstAt p xs < (xs.length : Int) := by
  unfold firstAt
  cases h : xs.findIdx? p with
  | none => simp only; omega
  | some k =>
    rw [List.findIdx?_eq_some_iff_getElem] at h
    obtain ⟨hk, _⟩ := h
    simp only; omega
theorem goS_cons (qs : List AskI) (at_ : Int) (xs : List Nat) {j : Nat} (hj : j < xs.length) : goS qs at_ (xs.drop j) = if at_ < 0 then (-1, false) else match stepS qs at_ (xs.getD j 0) with | none => (-1, false) | some n => goS qs n (xs.drop (j + 1)) := by
  rw [List.drop_eq_getElem_cons hj, goS, List.getD_eq_getElem?_getD, List.getElem?_eq_getElem hj]; rfl
set_option maxRecDepth 100000 in
set_option maxHeartbeats 1000000 in
theorem Follow_call (w : World) (v b : Value) (p : PlanI) (xs : List Nat) (hp : PlanAt w v p) (hb : Vals w b xs) :
    Calls Tryz.prog 26 #[v, b] w fun e w' => e = .returned (.tuple #[.int .i64 (followS p.asks xs).1, .bool (followS p.asks xs).2]) ∧ Below w.heap.size w w' := by
  obtain ⟨qv, rfl, hq⟩ := hp
  obtain ⟨qs, dp, lo⟩ := p
  simp only at hq ⊢
  obtain ⟨qa, qc, rfl, hq1⟩ := hq.1.open
  obtain ⟨ba, bc, rfl, hb1⟩ := hb.1.open
  have HQ := Lib.hid hq; have HB := Lib.hid hb
  have hql := hq.2.1
  have hbl := hb.2.1
  have hs0 : w.heap.size < w.heap.size + 1 := by omega
  obtain ⟨R, hR⟩ : ∃ R, R = followS qs xs := ⟨_, rfl⟩
  rw [← hR]
  have HR := Lib.hid hR
  clear hq hb hR
  by_cases h0 : qs.length = 0
  · have q0 : ¬ (0 : Int) < qs.length := by omega
    go_enter Tryz.func26, Tryz.ntmps26
    go_wp2
    go_loopw [6, 8, 9, 10, 17] (fun u6 _ _ _ i wr => u6 = .int .i64 (-1) ∧ i = .int .i64 0 ∧ Below w.heap.size w wr) (fun _ _ _ _ _ _ => 0)
    case atStart => exact ⟨rfl, rfl, below1 _ _⟩
    case round =>
      obtain ⟨rfl, rfl, hbel⟩ := hrel
      have HBL := Lib.hid hbel
      by_cases hx : xs.length = 0
      · have q1 : ¬ (0:Int) < xs.length := by omega
        clear hbel
        go_wp2
        exact bodyPost_ret (v := .tuple #[.int .i64 R.1, .bool R.2]) (by
          have e : R = (-1, true) := by rw [HR.out, List.eq_nil_of_length_eq_zero hx]; unfold followS; rw [if_pos h0]; rfl
          simp [results, Tryz.results26, go_sem, e]) rfl ⟨rfl, HBL.out⟩
      · have q1 : (0:Int) < xs.length := by omega
        have va := HB.out.mono hbel
        obtain ⟨b1, o1, rfl, g1, c1, d1, p0, p1, p2, p3, p4, p5, p6⟩ := va.1.at (show 0 < xs.length by omega)
        simp only [Nat.zero_mul, Nat.add_zero] at p0 p1 p2 p3 p4 p5 p6
        clear va hbel
        go_wp2
        exact bodyPost_ret (v := .tuple #[.int .i64 R.1, .bool R.2]) (by
          have e : R = (-1, false) := by
            rw [HR.out]; unfold followS; rw [if_pos h0]
            cases xs with
            | nil => simp at hx
            | cons x xs => rw [goS, if_pos (by omega)]
          simp [results, Tryz.results26, go_sem, e]) rfl ⟨rfl, HBL.out.alloc HBL.out.size _⟩
  · have q0 : (0 : Int) < qs.length := by omega
    go_enter Tryz.func26, Tryz.ntmps26
    go_wp2
    go_loopw [6, 8, 9, 10, 17] (fun u6 _ _ _ i wr => ∃ (j : Nat) (at_ : Int), j ≤ xs.length ∧ u6 = .int .i64 at_ ∧ i = .int .i64 j ∧ -1 ≤ at_ ∧ at_ < qs.length ∧ goS qs at_ (xs.drop j) = R ∧ wr.cell? ⟨w.heap.size, 0, none⟩ = some (.slice qa qs.length qc) ∧ Below w.heap.size w wr ∧ w.heap.size < wr.heap.size) (fun _ _ _ _ i _ => xs.length - (intOf i).toNat)
    case atStart => exact ⟨0, 0, by omega, rfl, rfl, by omega, by omega, by rw [HR.out, List.drop_zero]; unfold followS; rw [if_neg h0], by simp, below1 _ _, by simp⟩
    case round =>
      obtain ⟨j, at_, hj, rfl, rfl, ha1, ha2, hgo, hbx, hbel, hsz⟩ := hrel
      have HBL := Lib.hid hbel; have HGO := Lib.hid hgo
      by_cases hlt : j < xs.length
      · have q1 : (j:Int) < xs.length := by omega
        have q2 : 0 ≤ (j:Int) := by omega
        have va := HB.out.mono hbel
        obtain ⟨b1, o1, rfl, g1, c1, d1, p0, p1, p2, p3, p4, p5, p6⟩ := va.1.at hlt
        have hx : xs.getD j 0 ≤ 10 := getD_le va.2.2 hlt
        rw [goS_cons qs at_ xs hlt] at hgo
        have HGO := Lib.hid hgo
        clear va hgo
        generalize hgx : xs.getD j 0 = x at *
        have HX := Lib.hid hgx; clear hgx
        by_cases hneg : at_ < 0
        · clear hbel
          go_wp2
          exact bodyPost_ret (v := .tuple #[.int .i64 R.1, .bool R.2]) (by
            have e : R = (-1, false) := by rw [← HGO.out, if_pos hneg]
            simp [results, Tryz.results26, go_sem, e]) rfl ⟨rfl, HBL.out.alloc HBL.out.size _⟩
        · obtain ⟨t, rfl⟩ : ∃ t : Nat, at_ = t := ⟨at_.toNat, by omega⟩
          have hta : t < qs.length := by omega
          have vq := HQ.out.mono hbel
          obtain ⟨b2, o2, rfl, g2, r0, ⟨aa, ac, r1, r2⟩, ⟨na, nc, r3, r4⟩⟩ := vq.1.at hta
          have q3 : (0:Int) ≤ (t:Int) := by omega
          have HR2 := Lib.hid r2; have HR4 := Lib.hid r4
          have hal := r2.2.1
          have hnl := r4.2.1
          clear vq r2 r4 hbel
          obtain ⟨Q, hQ⟩ : ∃ Q, Q = qs.getD t a0 := ⟨_, rfl⟩
          rw [← hQ] at r0 r1 r3 HR2 HR4 hal hnl
          have HQQ := Lib.hid hQ
          clear hQ
          have g3 : b2 < wr.heap.size + 1 := by omega
          go_wp2_with (go_at_call 58; refine (indexFunc_follow _ _ Q.2.1 x wr.heap.size (HR2.out.mono (below2 _ _ _)) hx (by simp <;> omega) ⟨c1, d1, by simp, by simp, by simp, by simp, by simp, by simp, by simp⟩).mono ?_; rintro e w3 ⟨rfl, hb3⟩; have hc3 := olds hb3)
          obtain ⟨kx1, kx2⟩ := firstAt_lt (fun y => x == y) Q.2.1
          obtain ⟨k9, hk9⟩ : ∃ k9, k9 = firstAt (fun y => x == y) Q.2.1 := ⟨_, rfl⟩
          rw [← hk9] at kx1 kx2
          rw [← hk9]
          have HK9 := Lib.hid hk9
          have hbw3 := bthen (below2 _ _ _) hb3
          have c8 : w3.cell? ⟨wr.heap.size + 1, 2, none⟩ = some (.slice na Q.2.2.length nc) := by rw [hc3 _ _ (by simp <;> omega)]; simp
          have c9 : w3.cell? ⟨w.heap.size, 0, none⟩ = some (.slice (some ⟨b2, o2, none⟩) qs.length qc) := (olds hbw3 _ _ hsz).trans hbx
          have HI := Lib.hid (HR4.out.mono hbw3)
          have HB3 := Lib.hid hbw3
          clear hk9 hc3 hbx p0 p1 p2 p3 p4 p5 p6 r0 r1 r3 hb3 hbw3
          have hst : stepS qs t x = if k9 < 0 ∨ (Q.2.2.length : Int) ≤ k9 then none else if Q.2.2.getD k9.toNat 0 ≠ -1 ∧ (Q.2.2.getD k9.toNat 0 ≤ t ∨ (qs.length : Int) ≤ Q.2.2.getD k9.toNat 0) then none else some (Q.2.2.getD k9.toNat 0) := by
            rw [HK9.out, HQQ.out]; rfl
          have HST := Lib.hid hst
          clear hst
          have hbf := HBL.out.trans (HB3.out.mono HBL.out.size)
          have HBF := Lib.hid hbf
          clear hbf
          by_cases hk0 : k9 < 0
          · have hd : decide (k9 < 0) = true := by simpa using hk0
            go_quiet (fail)
            go_wp2
            exact bodyPost_ret (v := .tuple #[.int .i64 R.1, .bool R.2]) (by
              have e : R = (-1, false) := by rw [← HGO.out, if_neg (by omega), HST.out, if_pos (.inl hk0)]
              simp [results, Tryz.results26, go_sem, e]) rfl ⟨rfl, (below_drewN' HBF.out _)⟩
          · obtain ⟨kn, rfl⟩ : ∃ kn : Nat, k9 = kn := ⟨k9.toNat, by omega⟩
            have hd1 : decide ((kn : Int) < 0) = false := by simp <;> omega
            have hk0' : (0:Int) ≤ kn := by omega
            by_cases hkl : Q.2.2.length ≤ kn
            · have hd2 : decide ((Q.2.2.length : Int) ≤ kn) = true := by simp; omega
              have hkl' : (Q.2.2.length : Int) ≤ kn := by omega
              go_quiet (fail)
              go_wp2
              exact bodyPost_ret (v := .tuple #[.int .i64 R.1, .bool R.2]) (by
                have e : R = (-1, false) := by rw [← HGO.out, if_neg (by omega), HST.out, if_pos (.inr (by omega))]
                simp [results, Tryz.results26, go_sem, e]) rfl ⟨rfl, (below_drewN' HBF.out _)⟩
            · have hd2 : decide ((Q.2.2.length : Int) ≤ kn) = false := by simp; omega
              have hkl' : (kn : Int) < Q.2.2.length := by omega
              have hI := HI.out
              obtain ⟨b3, o3, rfl, g4, n0⟩ := hI.1.at (show kn < Q.2.2.length by omega)
              simp only [Nat.mul_one] at n0
              have hnb := hI.2.2 (Q.2.2.getD kn 0) (by rw [List.getD_eq_getElem?_getD, List.getElem?_eq_getElem (show kn < Q.2.2.length by omega)]; exact List.getElem_mem _)
              clear hI
              have hst2 : stepS qs t x = if Q.2.2.getD kn 0 ≠ -1 ∧ (Q.2.2.getD kn 0 ≤ t ∨ (qs.length : Int) ≤ Q.2.2.getD kn 0) then none else some (Q.2.2.getD kn 0) := by
                rw [HST.out, if_neg (by omega), Int.toNat_natCast]
              have HST2 := Lib.hid hst2
              clear hst2
              generalize hn : Q.2.2.getD kn 0 = n at *
              clear hn
              by_cases hm : n = -1
              · have hd3 : (n != -1) = false := by simp [hm]
                go_quiet (fail)
                go_wp2
                go_roundw
                case rel =>
                  have hR : goS qs n (xs.drop (j + 1)) = R := by have := HGO.out; rw [if_neg (by omega), HST2.out, if_neg (by omega)] at this; exact this
                  rw [hm] at hR
                  refine ⟨_, _, .int .i64 (-1), _, _, _, .int .i64 ((j : Int) + 1), ⟨j + 1, by omega, (-1), rfl, by go_num, by omega, by omega, hR, below_drewN' HBF.out _, ?_⟩, rfl, rfl, rfl, rfl, rfl, rfl, rfl⟩
                  have := HBF.out.size; have := HB3.out.size; omega
                case measure => simp [intOf]; omega
              · have hd3 : (n != -1) = true := by simp [hm]
                by_cases hnt : n ≤ t
                · have hd4 : decide (n ≤ (t : Int)) = true := by simpa using hnt
                  go_quiet (fail)
                  go_wp2
                  exact bodyPost_ret (v := .tuple #[.int .i64 R.1, .bool R.2]) (by
                    have e : R = (-1, false) := by rw [← HGO.out, if_neg (by omega), HST2.out, if_pos ⟨hm, .inl hnt⟩]
                    simp [results, Tryz.results26, go_sem, e]) rfl ⟨rfl, (below_drewN' HBF.out _)⟩
                · have hd4 : decide (n ≤ (t : Int)) = false := by simp; omega
                  by_cases hnl : (qs.length : Int) ≤ n
                  · have hd5 : decide ((qs.length : Int) ≤ n) = true := by simpa using hnl
                    go_quiet (fail)
                    go_wp2
                    exact bodyPost_ret (v := .tuple #[.int .i64 R.1, .bool R.2]) (by
                      have e : R = (-1, false) := by rw [← HGO.out, if_neg (by omega), HST2.out, if_pos ⟨hm, .inr hnl⟩]
                      simp [results, Tryz.results26, go_sem, e]) rfl ⟨rfl, (below_drewN' HBF.out _)⟩
                  · have hd5 : decide ((qs.length : Int) ≤ n) = false := by simp; omega
                    go_quiet (fail)
                    go_wp2
                    go_roundw
                    case rel =>
                      have hR : goS qs n (xs.drop (j + 1)) = R := by have := HGO.out; rw [if_neg (by omega), HST2.out, if_neg (by omega)] at this; exact this
                      refine ⟨_, _, .int .i64 n, _, _, _, .int .i64 ((j : Int) + 1), ⟨j + 1, by omega, n, rfl, by go_num, by omega, by omega, hR, below_drewN' HBF.out _, ?_⟩, rfl, rfl, rfl, rfl, rfl, rfl, rfl⟩
                      have := HBF.out.size; have := HB3.out.size; omega
                    case measure => simp [intOf]; omega
      · clear hbel hgo
        have hje : j = xs.length := by omega
        go_wp2
        exact bodyPost_ret (v := .tuple #[.int .i64 R.1, .bool R.2]) (by
          have e : R = (at_, true) := by rw [← HGO.out, hje, List.drop_length]; rfl
          simp [results, Tryz.results26, go_sem, e]) rfl ⟨rfl, HBL.out⟩
end Go.Proofs.YtoiemkifgdnhaaaGreatDoor
namespace Go.Proofs.YtoiemkifgdnhaaaGreatDoor
open Go Go.RowKit
theorem divS_fst (A : List (List Nat)) (k s : Nat) : (gfold A k (bitsOf s)).1 = (divS A k s).map (·.1) := by
  rw [divS_eq, List.map_map]; show _ = (valsOf A k s).map (fun v => v); rw [List.map_id']; rfl
theorem divS_snd (A : List (List Nat)) (k s : Nat) : (gfold A k (bitsOf s)).2 = (divS A k s).map fun g => pInts (bitsOf g.2) := by
  rw [(gfold_law A k (bitsOf s)).lists, divS_eq, List.map_map]
  apply List.map_congr_left
  intro v _
  show pInts (sel A k (bitsOf s) v) = pInts (bitsOf (mask (pInts (sel A k (bitsOf s) v))))
  unfold sel; rw [bits_mask]
theorem lst_pos : ∀ (l : List Nat) (f : Nat → Nat) (b : Nat), (0 < b ∨ ∃ k ∈ l, 0 < f k) → 0 < l.foldl (fun a k => lst a (f k)) b
  | [], _, b, h => by rcases h with h | ⟨k, hk, _⟩; exact h; simp at hk
  | k :: l, f, b, h => by
    rw [List.foldl_cons]
    apply lst_pos l f
    rcases h with h | ⟨k', hk', h⟩
    · left; unfold lst; split <;> omega
    · rcases List.mem_cons.1 hk' with rfl | hk'
      · left; unfold lst; split <;> omega
      · exact .inr ⟨k', hk', h⟩
theorem head_mem {l : List Nat} (h : l ≠ []) : l.getD 0 0 ∈ l := by
  cases l with
  | nil => exact absurd rfl h
  | cons a l => simp
/-- What has no depth is alike. -/
theorem dep_zero {A : List (List Nat)} {m s : Nat} (hok : Ok A m) (hs : s < 2 ^ A.length) (h : dep A m s = 0) : alikeS A (bitsOf s) = true := by
  apply Classical.byContradiction
  intro hn
  have hf : alikeS A (bitsOf s) = false := by simpa using hn
  unfold alikeS at hf
  rw [List.all_eq_false] at hf
  obtain ⟨p, hp, hne⟩ := hf
  have hne' : A.getD p [] ≠ A.getD ((bitsOf s).getD 0 0) [] := by simpa using hne
  have h0 : (bitsOf s).getD 0 0 ∈ bitsOf s := head_mem (List.ne_nil_of_mem hp)
  have e1 := bits_lt_pow hs hp
  have e2 := bits_lt_pow hs h0
  generalize (bitsOf s).getD 0 0 = p0 at *
  have r1 := hok.row (A.getD p []) (by rw [List.getD_eq_getElem?_getD, List.getElem?_eq_getElem e1]; exact List.getElem_mem _)
  have r2 := hok.row (A.getD p0 []) (by rw [List.getD_eq_getElem?_getD, List.getElem?_eq_getElem e2]; exact List.getElem_mem _)
  obtain ⟨j, hj, hd⟩ := row_diff (r1.1.trans r2.1.symm) hne'
  rw [r1.1] at hj
  have L := gfold_law A j (bitsOf s)
  have h2 : 2 ≤ (divS A j s).length := by
    have := two_of ((L.vals (gval A j p)).2 ⟨p, hp, rfl⟩) ((L.vals (gval A j p0)).2 ⟨p0, h0, rfl⟩) hd
    rw [divS_fst, List.length_map] at this; exact this
  have ha : 0 < aft A m j s := by unfold aft aftF; rw [if_neg (by omega)]; omega
  have := lst_pos (List.range m) (fun k => aft A m k s) 0 (.inr ⟨j, by simpa using hj, ha⟩)
  rw [← dep_eq, h] at this; omega
theorem dep_one {A : List (List Nat)} {m s : Nat} (h : dep A m s ≠ 0) : dep A m s = ((divS A (inp A m s) s).foldl (fun a g => max a (dep A m g.2)) 0) + 1 := by
  obtain ⟨_, h1, _, h2⟩ := inp_spec h
  rw [← h1]; unfold aft aftF; rw [if_neg (by omega)]
theorem stepF_app (A : List (List Nat)) (m f n : Nat) (a : List (Nat × Nat)) : ∀ b : List (Nat × Nat), ∃ x y, stepF A m f n (a ++ b) = ((stepF A m f n a).1 ++ x, (stepF A m f n a).2 ++ y) := by
  intro b
  induction b generalizing a with
  | nil => exact ⟨[], [], by simp⟩
  | cons g b ih =>
    obtain ⟨x, y, h⟩ := ih (a ++ [g])
    rw [List.append_assoc] at h
    rw [stepF_snoc] at h
    exact ⟨_, _, by rw [show a ++ g :: b = a ++ ([g] ++ b) by rfl, h]; simp only [List.append_assoc]; rfl⟩
/-- The i-th group's place, and where its questions stand. -/
theorem stepF_at (A : List (List Nat)) (m f n : Nat) (gs : List (Nat × Nat)) {i : Nat} (hi : i < gs.length) :
    (stepF A m f n gs).1.getD i 0 = (if dep A m (gs[i]).2 = 0 then -1 else ((n + 1 + (stepF A m f n (gs.take i)).2.length : Nat) : Int)) ∧
    ∃ y, (stepF A m f n gs).2 = (stepF A m f n (gs.take i)).2 ++ (planF A m f (gs[i]).2 (n + 1 + (stepF A m f n (gs.take i)).2.length) ++ y) := by
  obtain ⟨x, y, h⟩ := stepF_app A m f n (gs.take (i + 1)) (gs.drop (i + 1))
  rw [List.take_append_drop, List.take_succ_eq_append_getElem hi, stepF_snoc] at h
  have hl : (stepF A m f n (gs.take i)).1.length = i := by rw [stepF_len]; simp; omega
  rw [h]
  refine ⟨?_, y, by simp only [List.append_assoc]⟩
  rw [List.getD_eq_getElem?_getD, List.append_assoc, List.getElem?_append_right (by omega), hl, Nat.sub_self]; rfl
/-- The fuel plays no part. -/
theorem planF_fuel (A : List (List Nat)) (m : Nat) : ∀ f s n, (bitsOf s).length ≤ f + 1 → planF A m (f + 1) s n = planF A m (f + 2) s n := by
  intro f
  induction f with
  | zero =>
    intro s n hs
    by_cases hd : dep A m s = 0
    · rw [planF_zero _ _ _ _ _ hd, planF_zero _ _ _ _ _ hd]
    · exfalso
      obtain ⟨_, _, _, h2⟩ := inp_spec hd
      have hc := card_sum A (inp A m s) s
      have hp : ∀ g ∈ divS A (inp A m s) s, 0 < (bitsOf g.2).length := fun g hg => card_pos hg
      match hds : divS A (inp A m s) s, h2 with
      | a :: b :: l, _ =>
        rw [hds] at hc hp
        have := hp a (by simp); have := hp b (by simp)
        simp only [List.map_cons, List.sum_cons] at hc
        omega
  | succ f ih =>
    intro s n hs
    by_cases hd : dep A m s = 0
    · rw [planF_zero _ _ _ _ _ hd, planF_zero _ _ _ _ _ hd]
    · rw [planF_succ _ _ _ _ _ hd, planF_succ _ _ _ _ _ hd]
      obtain ⟨_, _, _, h2⟩ := inp_spec hd
      have hst : ∀ gs : List (Nat × Nat), (∀ g ∈ gs, (bitsOf g.2).length ≤ f + 1) → stepF A m (f + 1) n gs = stepF A m (f + 2) n gs := by
        intro gs hg
        have h : ∀ k, k ≤ gs.length → stepF A m (f + 1) n (gs.take k) = stepF A m (f + 2) n (gs.take k) := by
          intro k
          induction k with
          | zero => intro _; simp [stepF]
          | succ k ihk =>
            intro hk
            rw [List.take_succ_eq_append_getElem (by omega), stepF_snoc, stepF_snoc, ihk (by omega), ih _ _ (hg _ (List.getElem_mem _))]
        have := h gs.length (Nat.le_refl _)
        rwa [List.take_length] at this
      rw [hst _ fun g hg => by have := card_lt hg h2; omega]
theorem len_le_sum {α : Type} (f : α → Nat) : ∀ l : List α, (∀ a ∈ l, 0 < f a) → l.length ≤ (l.map f).sum
  | [], _ => by simp
  | a :: l, h => by
    have h1 := h a (by simp)
    have h2 := len_le_sum f l (fun b hb => h b (by simp [hb]))
    simp only [List.length_cons, List.map_cons, List.sum_cons]; omega
theorem divS_len (A : List (List Nat)) (k s : Nat) : (divS A k s).length ≤ (bitsOf s).length := by
  have h := card_sum A k s
  have := len_le_sum (fun g : Nat × Nat => (bitsOf g.2).length) (divS A k s) (fun g hg => card_pos hg)
  omega
theorem gval_le {A : List (List Nat)} {m k p b : Nat} (hr : ∀ l ∈ A, l.length = m ∧ ∀ x ∈ l, x ≤ b) (hk : k < m) (hp : p < A.length) : gval A k p ≤ b := by
  have e : A.getD p [] ∈ A := by rw [List.getD_eq_getElem?_getD, List.getElem?_eq_getElem hp]; exact List.getElem_mem _
  have h := hr _ e
  unfold gval
  exact getD_le h.2 (by rw [h.1]; exact hk)
theorem divS_val {A : List (List Nat)} {m k s b : Nat} (hr : ∀ l ∈ A, l.length = m ∧ ∀ x ∈ l, x ≤ b) (hk : k < m) (hs : s < 2 ^ A.length) {g : Nat × Nat} (hg : g ∈ divS A k s) : g.1 ≤ b := by
  rw [divS_eq] at hg
  simp only [List.mem_map] at hg
  obtain ⟨v, hv, rfl⟩ := hg
  obtain ⟨p, hp, e⟩ := ((gfold_law A k (bitsOf s)).vals v).1 hv
  rw [← e]
  exact gval_le hr hk (bits_lt_pow hs hp)
end Go.Proofs.YtoiemkifgdnhaaaGreatDoor
namespace Go.Proofs.YtoiemkifgdnhaaaGreatDoor
open Go Go.RowKit
def seenL (n : Nat) : List (Int × Value) := (List.range n).map fun (k : Nat) => ((k : Int), Value.bool true)
theorem lk_seen {n a : Nat} (h : n ≤ a) : lk (seenL n) a = none := by
  unfold lk seenL
  rw [Option.map_eq_none_iff, List.find?_eq_none]
  intro p hp
  simp only [List.mem_map, List.mem_range] at hp
  obtain ⟨k, hk, rfl⟩ := hp
  simp; omega
theorem upd_seen (n : Nat) : upd (seenL n) n (.bool true) = seenL (n + 1) := by
  have h : ∀ l : List Nat, (∀ k ∈ l, k < n) → upd (l.map fun (k : Nat) => ((k : Int), Value.bool true)) n (.bool true) = (l.map fun (k : Nat) => ((k : Int), Value.bool true)) ++ [((n : Int), .bool true)] := by
    intro l
    induction l with
    | nil => intro _; rfl
    | cons a l ih =>
      intro hl
      have := hl a (by simp)
      rw [List.map_cons, upd, if_neg (by simp; omega), ih (fun k hk => hl k (by simp [hk]))]; rfl
  unfold seenL
  rw [h _ (fun k hk => by simpa using hk), List.range_succ, List.map_append]; rfl
/-- A checker at c with its map r: the first n questions were met. -/
structure CW (w0 w : World) (c r : Nat) (A : List (List Nat)) (m : Nat) (qs : List Ask) (n : Nat) : Prop where
  b : Below w0.heap.size w0 w
  hc : w0.heap.size ≤ c
  hr : w0.heap.size ≤ r
  lt : c < w.heap.size
  g : G w0
  a : ∃ a d, w.cell? ⟨c, 0, none⟩ = some (.slice a A.length d) ∧ ValRows w0 (.slice a A.length d) A
  p : ∃ a d, w.cell? ⟨c, 1, none⟩ = some (.slice a qs.length d) ∧ AskRows w0 (.slice a qs.length d) (qs.map askI)
  d : w.cell? ⟨c, 4, none⟩ = some (.map (some r))
  mem : MapAt w r .i64 (seenL n)
theorem CW.grown {w0 w w' : World} {c r m n n' : Nat} {A : List (List Nat)} {qs : List Ask} (h : CW w0 w c r A m qs n) (hg : w.grownBy w' (some r)) (hm : MapAt w' r .i64 (seenL n')) : CW w0 w' c r A m qs n' := by
  have hk := kp_of_map hg h.mem hm
  obtain ⟨a, d, h1, h2⟩ := h.a
  obtain ⟨a', d', h3, h4⟩ := h.p
  exact ⟨h.b.grown hg h.b.size (fun k hk => by cases hk; exact h.hr), h.hc, h.hr, Nat.lt_of_lt_of_le h.lt hk.1, h.g, ⟨a, d, by rw [hk.2 _ _ h.lt]; exact h1, h2⟩, ⟨a', d', by rw [hk.2 _ _ h.lt]; exact h3, h4⟩, by rw [hk.2 _ _ h.lt]; exact h.d, hm⟩
theorem CW.below {w0 w w' : World} {c r m n : Nat} {A : List (List Nat)} {qs : List Ask} (h : CW w0 w c r A m qs n) (hb : Below w.heap.size w w') : CW w0 w' c r A m qs n := h.grown (grown_of_below hb) (h.mem.of hb)
/-- The questions of a set stand from n on. -/
def Placed (A : List (List Nat)) (m F s n : Nat) (qs : List Ask) : Prop := ∃ pre post, qs = pre ++ (planF A m F s n ++ post) ∧ pre.length = n
theorem Placed.first {A : List (List Nat)} {m f s n : Nat} {qs : List Ask} (h : Placed A m (f + 1) s n qs) (hd : dep A m s ≠ 0) :
    n < qs.length ∧ (qs.map askI).getD n a0 = askI (inp A m s, (divS A (inp A m s) s).map (·.1), (stepF A m f n (divS A (inp A m s) s)).1) := by
  obtain ⟨pre, post, rfl, hl⟩ := h
  rw [planF_succ _ _ _ _ _ hd]
  refine ⟨by simp; omega, ?_⟩
  rw [List.getD_eq_getElem?_getD, List.getElem?_map, List.getElem?_append_right (by omega), hl, Nat.sub_self]; rfl
theorem Placed.group {A : List (List Nat)} {m f s n : Nat} {qs : List Ask} (h : Placed A m (f + 1) s n qs) (hd : dep A m s ≠ 0) {i : Nat} (hi : i < (divS A (inp A m s) s).length) :
    Placed A m f ((divS A (inp A m s) s)[i]).2 (n + 1 + (stepF A m f n ((divS A (inp A m s) s).take i)).2.length) qs := by
  obtain ⟨pre, post, rfl, hl⟩ := h
  rw [planF_succ _ _ _ _ _ hd]
  obtain ⟨y, hy⟩ := (stepF_at A m f n (divS A (inp A m s) s) hi).2
  refine ⟨pre ++ ((inp A m s, (divS A (inp A m s) s).map (·.1), (stepF A m f n (divS A (inp A m s) s)).1) :: (stepF A m f n ((divS A (inp A m s) s).take i)).2), y ++ post, ?_, ?_⟩
  · conv => lhs; rw [hy]
    simp only [List.append_assoc, List.cons_append]
  · simp [hl]; omega
def ChkPost (A : List (List Nat)) (m F s n c r : Nat) (qs : List Ask) (w0 w : World) (en : Ending) (w' : World) : Prop :=
  en = .returned (.tuple #[.int .i64 (dep A m s : Nat), .bool true]) ∧ w.grownBy w' (some r) ∧ CW w0 w' c r A m qs (n + (planF A m F s n).length)
theorem und_seen : Tryz.prog.underlying 56 = some (.map 3 4) := by kernel_rfl
theorem und_int : Tryz.prog.underlying 3 = some (.int .i64) := by kernel_rfl
theorem zero_bool (w : World) : (zeroValue 4).run Tryz.prog w = .ok (.bool false) w := by go_simp
end Go.Proofs.YtoiemkifgdnhaaaGreatDoor
namespace Go.Proofs.YtoiemkifgdnhaaaGreatDoor
open Go Go.RowKit
theorem kp_tr {a b c : World} (h : Kp a b) (k : Kp b c) : Kp a c := ⟨Nat.le_trans h.1 k.1, fun x o hb => (k.2 x o (Nat.lt_of_lt_of_le hb h.1)).trans (h.2 x o hb)⟩
set_option maxRecDepth 100000 in
set_option maxHeartbeats 1000000 in
theorem check_step (A : List (List Nat)) (m f s n c r : Nat) (qs : List Ask) (w0 w : World) (v : Value) (hok : Ok A m) (hA9 : ∀ l ∈ A, ∀ x ∈ l, x ≤ 9) (hm : m = inputsS A) (hs : s < 2 ^ A.length) (hd : dep A m s ≠ 0) (hp : Placed A m (f + 1) s n qs) (hql : qs.length ≤ 500)
    (hP : CW w0 w c r A m qs n) (hv : Ints w v (pInts (bitsOf s)))
    (hD : ∀ t n' w v', t < 2 ^ A.length → (bitsOf t).length < (bitsOf s).length → dep A m t ≠ 0 → Placed A m f t n' qs → CW w0 w c r A m qs n' → Ints w v' (pInts (bitsOf t)) → Calls Tryz.prog 45 #[.pointer (some ⟨c, 0, none⟩), .int .i64 n', v'] w (ChkPost A m f t n' c r qs w0 w)) :
    Calls Tryz.prog 45 #[.pointer (some ⟨c, 0, none⟩), .int .i64 n, v] w (ChkPost A m (f + 1) s n c r qs w0 w) := by
  have HI := Lib.hid (inp_spec hd)
  obtain ⟨hn, hfi⟩ := hp.first hd
  have HPL := Lib.hid hp
  obtain ⟨aa, ac, a1, a2⟩ := hP.a
  obtain ⟨pa, pc, p1, p2⟩ := hP.p
  have d1 := hP.d
  have hlt := hP.lt
  have hq1 : (n : Int) < qs.length := by omega
  have hq2 : (0 : Int) ≤ n := by omega
  have hl := lk_seen (Nat.le_refl n)
  have hrun := run_lookup_none (P := Tryz.prog) w 56 3 4 .i64 n r _ _ und_seen und_int hP.mem hl (zero_bool w) false
  simp only [Bool.false_eq_true, ↓reduceIte] at hrun
  obtain ⟨w1, hupd, hm1, hg1⟩ := run_update (P := Tryz.prog) w 56 3 4 .i64 n (.bool true) r _ und_seen und_int hP.mem
  rw [upd_seen] at hm1
  have hP1 := hP.grown hg1 hm1
  have HP1 := Lib.hid hP1
  obtain ⟨b2, o2, rfl, g2, hask⟩ := (p2.mono hP1.b).1.at (show n < (qs.map askI).length by simpa using hn)
  rw [hfi] at hask
  obtain ⟨r0, ⟨va_, vc, r1, r2⟩, ⟨na, nc, r3, r4⟩⟩ := hask
  have hk1 := kp_of_map hg1 hP.mem hm1
  obtain ⟨gs, hgs⟩ : ∃ gs, gs = divS A (inp A m s) s := ⟨_, rfl⟩
  obtain ⟨k, hk⟩ : ∃ k, k = inp A m s := ⟨_, rfl⟩
  simp only [askI] at r0 r1 r2 r3 r4
  rw [← hgs] at r1 r2 r3 r4
  rw [← hk] at r0
  rw [stepF_len] at r3 r4
  rw [List.length_map] at r1 r2
  have HR2 := Lib.hid r2; have HR4 := Lib.hid r4
  have a1' : w1.cell? ⟨c, 0, none⟩ = some (.slice aa A.length ac) := by rw [hk1.2 _ _ hlt]; exact a1
  have p1' : w1.cell? ⟨c, 1, none⟩ = some (.slice (some ⟨b2, o2, none⟩) qs.length pc) := by rw [hk1.2 _ _ hlt]; exact p1
  have d1' : w1.cell? ⟨c, 4, none⟩ = some (.map (some r)) := by rw [hk1.2 _ _ hlt]; exact d1
  have hlt1 : c < w1.heap.size := Nat.lt_of_lt_of_le hlt hk1.1
  have hkm : k < m := by rw [hk]; exact HI.out.1
  have hm10 := hok.m10
  have HK1 := Lib.hid hk1
  have HF1 := Lib.hid (show (gfold A k (bitsOf s)).1 = gs.map (·.1) by rw [hk, hgs]; exact divS_fst _ _ _)
  have HF2 := Lib.hid (show (gfold A k (bitsOf s)).2 = gs.map (fun g => pInts (bitsOf g.2)) by rw [hk, hgs]; exact divS_snd _ _ _)
  have hg12 : gs.length ≤ 12 := by rw [hgs]; exact Nat.le_trans (divS_len _ _ _) (bits_len _)
  have HGV := Lib.hid (show ∀ g ∈ gs, g.1 ≤ 10 from fun g hg => by rw [hgs, ← hk] at hg; exact divS_val (b := 10) hok.row hkm hs hg)
  have hge2 : 2 ≤ gs.length := by rw [hgs]; exact HI.out.2.2.2
  have hg2i : ¬ (gs.length : Int) < 2 := by omega
  have HK := Lib.hid hk; have HGS := Lib.hid hgs; have HG1 := Lib.hid hg1; have HV := Lib.hid hv; have HA2 := Lib.hid a2; have HOK := Lib.hid hok; have HD := Lib.hid hD; have HM := Lib.hid hm; have HP := Lib.hid hP; have HS := Lib.hid hs; have HDD := Lib.hid hd; have HA9 := Lib.hid hA9
  obtain ⟨vo, vcap, rfl, hv1⟩ := hv.1.open
  clear hk hgs hg1 hv a2 hok hD hm hP hp hs hd hA9 r2 r4 p2 hm1 hP1 hk1 hfi hl
  go_enter Tryz.func45, Tryz.ntmps45
  go_wp2
  have b1 : Below w1.heap.size w1 (w1.alloc (.cells #[.int .i64 k, .slice va_ gs.length vc, .slice na gs.length nc] 59)) := below1 _ _
  have t0 : (w1.alloc (.cells #[.int .i64 k, .slice va_ gs.length vc, .slice na gs.length nc] 59)).cell? ⟨w1.heap.size, 0, none⟩ = some (.int .i64 k) := by simp
  have t1 : (w1.alloc (.cells #[.int .i64 k, .slice va_ gs.length vc, .slice na gs.length nc] 59)).cell? ⟨w1.heap.size, 1, none⟩ = some (.slice va_ gs.length vc) := by simp
  have t2 : (w1.alloc (.cells #[.int .i64 k, .slice va_ gs.length vc, .slice na gs.length nc] 59)).cell? ⟨w1.heap.size, 2, none⟩ = some (.slice na gs.length nc) := by simp
  have t3 : w1.heap.size < (w1.alloc (.cells #[.int .i64 k, .slice va_ gs.length vc, .slice na gs.length nc] 59)).heap.size := by simp
  obtain ⟨W1, hW1⟩ : ∃ W1, W1 = w1.alloc (.cells #[.int .i64 k, .slice va_ gs.length vc, .slice na gs.length nc] 59) := ⟨_, rfl⟩
  rw [← hW1] at b1 t0 t1 t2 t3
  rw [← hW1]
  clear hW1 hrun hupd
  obtain ⟨ab, hab⟩ : ∃ ab, ab = w1.heap.size := ⟨_, rfl⟩
  rw [← hab] at t0 t1 t2 t3
  rw [← hab]
  have e0 := (olds b1 _ _ hlt1).trans a1'
  have e1 := (olds b1 _ _ hlt1).trans p1'
  have e4 := (olds b1 _ _ hlt1).trans d1'
  have hlt2 : c < W1.heap.size := Nat.lt_of_lt_of_le hlt1 b1.size
  have B1 := Lib.hid b1; have HAB := Lib.hid hab
  have hd1 : decide ((k : Int) < 0) = false := by simp <;> omega
  have hd2 : decide ((m : Int) ≤ k) = false := by simp; omega
  clear a1' p1' d1' r0 r1 r3 b1 hab hlt a1 p1 d1
  go_region_held3 (fun w' => ∀ b o, b < W1.heap.size → w'.cell? ⟨b, o, none⟩ = W1.cell? ⟨b, o, none⟩) (first | exact olds (Below.refl _ _) | exact olds ((Below.refl _ _).drew) | exact olds ‹Below W1.heap.size W1 _›)  (first | (go_at_call 47; refine (inputs_call _ _ A (HA2.out.mono (HP1.out.below B1.out).b.drew)).mono ?_; rintro e w2 ⟨rfl, hb2⟩; rw [← HM.out]; have hbw2 := bdrew hb2))
  go_wp2
  have f0 := (olds hbw2 _ _ hlt2).trans e0
  have f1 := (olds hbw2 _ _ hlt2).trans e1
  have f4 := (olds hbw2 _ _ hlt2).trans e4
  have s0 := (olds hbw2 _ _ t3).trans t0
  have s1 := (olds hbw2 _ _ t3).trans t1
  have s2 := (olds hbw2 _ _ t3).trans t2
  have hlt3 : c < w2.heap.size := Nat.lt_of_lt_of_le hlt2 hbw2.size
  have t4 : ab < w2.heap.size := Nat.lt_of_lt_of_le t3 hbw2.size
  have hcw2 := (HP1.out.below B1.out).below hbw2
  have HCW2 := Lib.hid hcw2
  have hw2 : w1.heap.size ≤ w2.heap.size := Nat.le_trans B1.out.size hbw2.size
  have HBW2 := Lib.hid hbw2
  have HW := Lib.hid (show Below w.heap.size w w2 → True from fun _ => trivial)
  clear HW e0 e1 e4 t0 t1 t2 hlt2 t3 hb2 hbw2 hd1 hd2 hcw2
  have hvi := Lib.hid ((HV.out.kp (kp_tr HK1.out (kp_tr (Below.kp B1.out) (Below.kp HBW2.out)))).mono (Below.refl _ _).drew)
  go_region_held3 (fun w' => ∀ b o, b < w2.heap.size → w'.cell? ⟨b, o, none⟩ = w2.cell? ⟨b, o, none⟩) (first | exact olds (Below.refl _ _) | exact olds ((Below.refl _ _).drew) | exact olds ‹Below w2.heap.size w2 _›)  (first | (go_at_call 52; refine (groups_call _ _ _ A (bitsOf s) k m (HA2.out.mono (HCW2.out.b.drew)) hvi.out (HCW2.out.g.mono (HCW2.out.b.drew)) (fun l hl => (HOK.out.row l hl).1) hkm (fun p hp => bits_lt_pow HS.out hp) (by have := bits_len s; omega)).mono ?_; rintro e w3 ⟨v3, o3, zs, rfl, hv3, hz3, ho3, hb3⟩; rw [HF1.out, List.length_map] at hv3; rw [HF1.out] at hz3; rw [HF2.out] at ho3; obtain ⟨a3, c3, rfl⟩ := own_slice hv3; have hbw3 := bdrew hb3))
  have x0 := (olds hbw3 _ _ hlt3).trans f0
  have x1 := (olds hbw3 _ _ hlt3).trans f1
  have x4 := (olds hbw3 _ _ hlt3).trans f4
  have y0 := (olds hbw3 _ _ t4).trans s0
  have y1 := (olds hbw3 _ _ t4).trans s1
  have y2 := (olds hbw3 _ _ t4).trans s2
  have hlt4 : c < w3.heap.size := Nat.lt_of_lt_of_le hlt3 hbw3.size
  have t5 : ab < w3.heap.size := Nat.lt_of_lt_of_le t4 hbw3.size
  have hzl : zs.length = gs.length := by have := congrArg List.length hz3; simpa using this
  have hvv := own_vals (n := gs.length) hv3 (by omega) (fun z hz => by
    have : z.1 ∈ gs.map (·.1) := by rw [← hz3]; exact List.mem_map_of_mem hz
    obtain ⟨g, hg, e⟩ := List.mem_map.1 this
    rw [← e]; exact HGV.out g hg)
  rw [hz3] at hvv
  have HVV := Lib.hid hvv; have HO3 := Lib.hid ho3; have HB3 := Lib.hid hbw3
  obtain ⟨la, lc, rfl⟩ := ho3.slice
  have hcw3 := HCW2.out.below hbw3
  have HCW3 := Lib.hid hcw3
  have r2' := Lib.hid (HR2.out.mono (B1.out.trans (HBW2.out.mono B1.out.size)))
  clear f0 f1 f4 s0 s1 s2 hlt3 t4 hvv hbw3 ho3 hv3 hb3 hz3 hzl hcw3
  go_wp2_with (go_at_call 71; refine (equalFunc_vals _ _ _ _ _ HVV.out (r2'.out.mono HB3.out)).mono ?_; rintro e w4 ⟨rfl, hb4⟩; rw [show (gs.map (·.1) == gs.map (·.1)) = true from by simp]; have y3 := (olds hb4 _ _ t5).trans y2)
  have HCW4 := Lib.hid (HCW3.out.below hb4)
  have HB4 := Lib.hid hb4
  have HN4 := Lib.hid (HR4.out.mono ((B1.out.trans (HBW2.out.mono B1.out.size)).trans ((HB3.out.trans (hb4.mono HB3.out.size)).mono (Nat.le_trans B1.out.size HBW2.out.size))))
  have HL4 := Lib.hid (HO3.out.below hb4)
  clear x0 x1 x4 y0 y1 y2 y3 hlt4 t5 hb4
  go_loopw [11, 12, 13, 14, 15, 94] (fun u11 _ _ _ _ i wr => ∃ j : Nat, j ≤ gs.length ∧ i = .int .i64 j ∧ u11 = .int .i64 ((gs.take j).foldl (fun a g => max a (dep A m g.2)) 0 : Nat) ∧ w4.grownBy wr (some r) ∧ CW w0 wr c r A m qs (n + 1 + (stepF A m f n (gs.take j)).2.length)) (fun _ _ _ _ _ i _ => gs.length - (intOf i).toNat)
  case atStart => exact ⟨0, by omega, rfl, rfl, World.grownBy.refl _ _, HCW4.out⟩
  case round =>
    obtain ⟨j, hj, rfl, rfl, hg, hcw⟩ := hrel
    have HG := Lib.hid hg; have HCW := Lib.hid hcw
    have hmx : (gs.take j).foldl (fun a g => max a (dep A m g.2)) 0 ≤ 13 := max_le (gs := gs.take j) (dep_le A m) 0 (by omega)
    by_cases hlt : j < gs.length
    · have q1 : (j:Int) < gs.length := by omega
      have q2 : 0 ≤ (j:Int) := by omega
      have hkp := kp_of_map hg HCW4.out.mem hcw.mem
      have hIR := (Lists.rows HL4.out (by simp; omega) (fun l hl => by
        obtain ⟨g, _, rfl⟩ := List.mem_map.1 hl
        refine ⟨by rw [pInts_len]; have := bits_len g.2; omega, fun x hx => ?_⟩
        simp only [pInts, List.mem_map] at hx
        obtain ⟨p, hp, rfl⟩ := hx
        have := bits_lt hp; omega)).kp hkp
      obtain ⟨g, hgg⟩ : ∃ g, g = gs[j] := ⟨_, rfl⟩
      have hgm : g ∈ gs := by rw [hgg]; exact List.getElem_mem _
      obtain ⟨b5, o5, hla, g5, ra, rc, u0, u1⟩ := hIR.1.at (show j < (gs.map fun g => pInts (bitsOf g.2)).length by simpa using hlt)
      have hgd : (gs.map fun g => pInts (bitsOf g.2)).getD j [] = pInts (bitsOf g.2) := by rw [List.getD_eq_getElem?_getD, List.getElem?_map, List.getElem?_eq_getElem hlt, hgg]; rfl
      rw [hgd] at u0 u1
      have hNI := HN4.out.kp hkp
      obtain ⟨b6, o6, hna, g6, z0⟩ := hNI.1.at (show j < (stepF A m f n gs).1.length by rw [stepF_len]; exact hlt)
      obtain ⟨hs1, hs2⟩ := stepF_at A m f n gs hlt
      rw [← hgg] at hs1
      rw [hs1] at z0
      have hsn : stepF A m f n (gs.take (j + 1)) = ((stepF A m f n (gs.take j)).1 ++ [if dep A m g.2 = 0 then -1 else ((n + 1 + (stepF A m f n (gs.take j)).2.length : Nat) : Int)], (stepF A m f n (gs.take j)).2 ++ planF A m f g.2 (n + 1 + (stepF A m f n (gs.take j)).2.length)) := by
        rw [List.take_succ_eq_append_getElem hlt, stepF_snoc, hgg]
      have hfold : (gs.take (j + 1)).foldl (fun a g => max a (dep A m g.2)) 0 = max ((gs.take j).foldl (fun a g => max a (dep A m g.2)) 0) (dep A m g.2) := by
        rw [List.take_succ_eq_append_getElem hlt, List.foldl_append, hgg]; rfl
      have hset : g.2 < 2 ^ A.length := set_lt HS.out (k := k) (by rw [HK.out, ← HGS.out]; exact hgm)
      have hcard : (bitsOf g.2).length < (bitsOf s).length := card_lt (k := k) (by rw [HK.out, ← HGS.out]; exact hgm) (by rw [HK.out, ← HGS.out]; exact hge2)
      have hplc : Placed A m f g.2 (n + 1 + (stepF A m f n (gs.take j)).2.length) qs := by
        have := HPL.out.group HDD.out (i := j) (by rw [← HGS.out]; exact hlt)
        simp only [← HGS.out, ← hgg] at this
        exact this
      obtain ⟨N, hN⟩ : ∃ N, N = n + 1 + (stepF A m f n (gs.take j)).2.length := ⟨_, rfl⟩
      rw [← hN] at hs1 hsn hplc hcw z0
      simp only [Nat.mul_one] at z0 u0
      subst hla hna
      obtain ⟨M, hM⟩ : ∃ M, M = (gs.take j).foldl (fun a g => max a (dep A m g.2)) 0 := ⟨_, rfl⟩
      rw [← hM] at hmx hfold
      rw [← hM]
      have v0 := hcw.a
      obtain ⟨qa0, qd0, v1, v2⟩ := hcw.a
      have v3 := hcw.lt
      have hdle := dep_le A m g.2
      have HU1 := Lib.hid u1; have HV2 := Lib.hid v2; have HN := Lib.hid hN; have HM' := Lib.hid hM; have HSN := Lib.hid hsn; have HFO := Lib.hid hfold; have HSET := Lib.hid hset; have HCARD := Lib.hid hcard; have HPLC := Lib.hid hplc; have HCW' := Lib.hid hcw
      clear hg hcw hkp hIR hgg hgm hgd hNI hs1 hs2 hsn hfold hset hcard hplc hN hM u1 v0 v2
      by_cases hdz : dep A m g.2 = 0
      · rw [if_pos hdz] at z0
        have HDZ := Lib.hid hdz
        clear hdz
        go_wp2
        go_region_held3 (fun w' => ∀ b o, b < wr.heap.size → w'.cell? ⟨b, o, none⟩ = wr.cell? ⟨b, o, none⟩) (first | exact olds (Below.refl _ _) | exact olds ((Below.refl _ _).drew) | exact olds ‹Below wr.heap.size wr _›)  (first | (go_at_call 43; refine (alike_call _ _ _ A (bitsOf g.2) (HV2.out.mono (HCW'.out.b.drew)) (HU1.out.mono (Below.refl _ _).drew) (fun p hp => bits_lt_pow HSET.out hp)).mono ?_; rintro e w5 ⟨rfl, hb5⟩; have hbw5 := bdrew hb5; rw [dep_zero HOK.out HSET.out HDZ.out]))
        go_wp2
        refine ⟨⟨j + 1, by omega, by go_num, by rw [HFO.out, HDZ.out, Nat.max_zero], grown_trans HG.out (grown_of_below hbw5), ?_⟩, by simp [intOf]; omega⟩
        have e : n + 1 + (stepF A m f n (gs.take (j + 1))).2.length = N := by rw [HSN.out, planF_zero _ _ _ _ _ HDZ.out, List.append_nil]; exact HN.out.symm
        rw [e]
        exact HCW'.out.below hbw5
      · rw [if_neg hdz] at z0
        have hNn : (n : Int) < N := by rw [HN.out]; omega
        have hN600 : N ≤ 600 := by
          have h1 := stepF_le A m f n s k j (by rw [HK.out, ← HGS.out]; exact hj)
          have h2 := bits_len s
          rw [HK.out, ← HGS.out] at h1
          rw [HN.out]; omega
        have hN1 : ((N : Int) == -1) = false := by rw [beq_eq_false_iff_ne]; omega
        have HDZ := Lib.hid hdz
        clear hdz
        go_wp2_with (go_at_call 45; refine (HD.out g.2 N _ _ HSET.out HCARD.out HDZ.out HPLC.out HCW'.out HU1.out).mono ?_; rintro e w5 ⟨rfl, hg5, hcw5⟩)
        refine ⟨⟨j + 1, by omega, by go_num, by rw [HFO.out]; congr 1; omega, grown_trans HG.out hg5, ?_⟩, by simp [intOf]; omega⟩
        have e : n + 1 + (stepF A m f n (gs.take (j + 1))).2.length = N + (planF A m f g.2 N).length := by rw [HSN.out, List.length_append, HN.out]; omega
        rw [e]
        exact hcw5
    · obtain rfl : j = gs.length := by omega
      clear hg hcw
      have hfin : gs.foldl (fun a g => max a (dep A m g.2)) 0 + 1 = dep A m s := by rw [dep_one HDD.out, ← HGS.out]
      rw [List.take_length] at hmx HCW ⊢
      obtain ⟨M, hM⟩ : ∃ M, M = gs.foldl (fun a g => max a (dep A m g.2)) 0 := ⟨_, rfl⟩
      rw [← hM] at hmx hfin
      rw [← hM]
      have HFIN := Lib.hid hfin
      clear hfin hM
      go_wp2
      refine bodyPost_ret (v := .tuple #[.int .i64 (dep A m s : Nat), .bool true]) ?_ rfl ⟨rfl, ?_, ?_⟩
      · simp [results, Tryz.results45, go_sem, ← HFIN.out]
      · exact grown_trans (grown_trans HG1.out (grown_of_below (B1.out.trans (HBW2.out.mono B1.out.size)))) (grown_trans (grown_of_below (HB3.out.trans (HB4.out.mono HB3.out.size))) HG.out)
      · have e : n + 1 + (stepF A m f n gs).2.length = n + (planF A m (f + 1) s n).length := by rw [planF_succ _ _ _ _ _ HDD.out, List.length_cons, ← HGS.out]; omega
        rw [← e]; exact HCW.out
end Go.Proofs.YtoiemkifgdnhaaaGreatDoor
