/- A region whose order is drawn, by what holds whichever operations have come up. No conditions.
  The questions of a set, by their law; how a plan under way lies. No program in sight.
  How the questions under way lie, and what stays of it. No conditions.
  An answer and a place are put to a question: what holds whichever operations of the statement have come up. No conditions.
  What comes of the statement. No conditions.
  The questions of a set: the walk's frame. No conditions.
  The statement that puts an answer and a place to a question: what holds by what has come up. No conditions.
  The statement's 24 operations: what is in the slots by what has come up. No conditions.
  The questions of a set: the walk. Conditions: sets of twelve programs at most. -/
import Derived.Test.YtoiemkifgdnhaaaGreatDoorL9
import Derived.Orders
import Derived.RegionTactic
import Derived.Test.YtoiemkifgdnhaaaGreatDoorL5
import Derived.Laws.EntriesVeiled
namespace Go.Proofs.YtoiemkifgdnhaaaGreatDoor
open Go Go.RowKit
section
variable {P : Program} {ops : Array Oper} {Q : Exit → Act → World → Prop} {md : Region.Mode}
/-- How many have not come up. -/
def left (L : Array Bool) : Nat := (L.toList.filter fun b => !b).length
theorem left_set {L : Array Bool} {i : Nat} (h : L.getD i true = false) : left (L.setIfInBounds i true) + 1 = left L := by
  have hi : i < L.size := by
    by_cases hi : i < L.size
    · exact hi
    · simp [Array.getD, hi] at h
  have hv : L.toList[i]? = some false := by
    have : L[i] = false := by simpa [Array.getD, hi] using h
    simp [hi, this]
  unfold left
  rw [Array.toList_setIfInBounds]
  have hl : i < L.toList.length := by simpa using hi
  have h1 : L.toList = L.toList.take i ++ (false :: L.toList.drop (i + 1)) := by
    conv => lhs; rw [← List.take_append_drop i L.toList]
    rw [List.drop_eq_getElem_cons hl]
    congr 2
    rw [List.getElem?_eq_getElem hl] at hv; simpa using hv
  rw [List.set_eq_take_append_cons_drop, if_pos hl]
  conv => rhs; rw [h1]
  rw [List.filter_append, List.filter_append, List.filter_cons, List.filter_cons]
  simp; omega
theorem ready_left {L : Array Bool} {i : Nat} (h : i ∈ Region.ready md ops L) : 0 < left L := by
  have := left_set (mem_ready.1 h).1; omega
/-- Who has come up had those listed whom it waits for. -/
def Closed (md : Region.Mode) (ops : Array Oper) (L : Array Bool) : Prop := ∀ (j : Nat) (o : Oper), ops[j]? = some o → L.getD j false = true → ∀ e ∈ o.after, Region.binds md e = true → L.getD e.on false = true
theorem getD_or {L : Array Bool} {i j : Nat} : (L.setIfInBounds i true).getD j false = true ↔ L.getD j false = true ∨ (j = i ∧ j < L.size) := by
  by_cases hj : j < L.size
  · by_cases h : i = j
    · subst h; simp [Array.getD, hj]
    · have h2 : ¬ j = i := fun e => h e.symm
      simp [Array.getD, hj, h, h2, Array.getElem_setIfInBounds]
  · simp [Array.getD, hj]
theorem Closed.step {L : Array Bool} {i : Nat} (h : Closed md ops L) (hi : i ∈ Region.ready md ops L) : Closed md ops (L.setIfInBounds i true) := by
  obtain ⟨_, o', ho', ha⟩ := mem_ready.1 hi
  intro j o ho hj e he hb
  rw [getD_or] at hj ⊢
  rcases hj with hj | ⟨rfl, _⟩
  · exact .inl (h j o ho hj e he hb)
  · rw [ho'] at ho; cases ho; exact .inl (ha e he hb)
theorem wpAny_inv (Inv : Array Bool → Act → World → Prop)
    (step : ∀ L a w i, Inv L a w → Closed md ops L → i ∈ Region.ready md ops L → wpOp P ops Q i (fun a' w' => Inv (L.setIfInBounds i true) a' w') a w)
    (done : ∀ L a w, Inv L a w → L.size = ops.size → Region.ready md ops L = [] → Q .normal a w) : ∀ (fuel : Nat) (L : Array Bool) (a : Act) (w : World), left L ≤ fuel → L.size = ops.size → Closed md ops L → Inv L a w → wpAny P md ops Q fuel L a w := by
  intro fuel
  induction fuel with
  | zero =>
    intro L a w hl hz _ hI
    have hr : Region.ready md ops L = [] := by
      cases h : Region.ready md ops L with
      | nil => rfl
      | cons i l => have := ready_left (md := md) (ops := ops) (L := L) (i := i) (by rw [h]; simp); omega
    exact ⟨hr, done L a w hI hz hr⟩
  | succ fuel ih =>
    intro L a w hl hz hc hI
    refine ⟨fun hr => done L a w hI hz hr, fun i hi => ?_⟩
    refine wpOp_mono (fun a' w' h => ih _ a' w' ?_ (by simpa using hz) (hc.step hi) h) (step L a w i hI hc hi)
    have := left_set (mem_ready.1 hi).1; omega
/-- Where nobody can come up, and each waits for earlier ones alone, all have come up. -/
theorem all_listed (hw : ∀ (i : Nat) (o : Oper), ops[i]? = some o → ∀ e ∈ o.after, Region.binds md e = true → e.on < i) {L : Array Bool} (hr : Region.ready md ops L = []) : ∀ i, i < ops.size → L.getD i true = true := by
  intro i
  induction i using Nat.strongRecOn with
  | ind i ih =>
    intro hi
    by_cases h : L.getD i true = true
    · exact h
    · exfalso
      have hm : i ∈ Region.ready md ops L := mem_ready.2 ⟨by simpa using h, ops[i], by simp [hi], fun e he hb => by
        have hlt := hw i ops[i] (by simp [hi]) e he hb
        have := ih e.on hlt (by omega)
        by_cases hs : e.on < L.size
        · simpa [Array.getD, hs] using this
        · exfalso
          have h2 : ¬ i < L.size := by omega
          simp [Array.getD, h2] at h⟩
      rw [hr] at hm; simp at hm
theorem wp_region_inv {id : Nat} {a : Act} {w : World} (Inv : Array Bool → Act → World → Prop) (hm : P.follows .mixedOrders = true)
    (h0 : Inv (Array.replicate ops.size false) a w.drew)
    (step : ∀ L a w i, Inv L a w → Closed .any ops L → i ∈ Region.ready .any ops L → wpOp P ops Q i (fun a' w' => Inv (L.setIfInBounds i true) a' w') a w)
    (done : ∀ L a w, Inv L a w → L.size = ops.size → Region.ready .any ops L = [] → Q .normal a w) : (Code.region id ops true).wp P Q a w :=
  wp_region_any hm (wpAny_inv Inv step done _ _ _ _ (by
    unfold left
    rw [Array.toList_replicate]
    refine Nat.le_trans (List.length_filter_le _ _) (by simp)) (by simp) (by
    intro j o _ hj
    simp [Array.getD] at hj) h0)
end
end Go.Proofs.YtoiemkifgdnhaaaGreatDoor
namespace Go.Proofs.YtoiemkifgdnhaaaGreatDoor
open Go Go.RowKit
theorem sum_one {vs : List Nat} (hn : vs.Nodup) {x : Nat} (hx : x ∈ vs) : (vs.map fun v => if x = v then 1 else 0).sum = 1 := by
  induction vs with
  | nil => simp at hx
  | cons v vs ih =>
    rw [List.nodup_cons] at hn
    rw [List.map_cons, List.sum_cons]
    by_cases h : x = v
    · subst h
      have h0 : ∀ l : List Nat, x ∉ l → (l.map fun v => if x = v then 1 else 0).sum = 0 := by
        intro l
        induction l with
        | nil => intro _; rfl
        | cons y l ih => intro hl; simp only [List.mem_cons, not_or] at hl; rw [List.map_cons, List.sum_cons, ih hl.2, if_neg hl.1]
      rw [if_pos rfl, h0 vs hn.1]
    · rw [if_neg h, ih hn.2 (by simpa [h] using hx)]
theorem sum_add (vs : List Nat) (f g : Nat → Nat) : (vs.map fun v => f v + g v).sum = (vs.map f).sum + (vs.map g).sum := by
  induction vs with
  | nil => rfl
  | cons v vs ih => simp only [List.map_cons, List.sum_cons, ih]; omega
theorem sel_sum (A : List (List Nat)) (k : Nat) {vs : List Nat} (hn : vs.Nodup) : ∀ (ps : List Nat), (∀ p ∈ ps, gval A k p ∈ vs) → (vs.map fun v => (sel A k ps v).length).sum = ps.length := by
  intro ps
  induction ps with
  | nil =>
    intro _
    have : (fun v => (sel A k [] v).length) = fun _ => 0 := by funext v; simp [sel]
    rw [this]
    generalize vs = l
    induction l with
    | nil => rfl
    | cons _ _ ih => simpa using ih
  | cons p ps ih =>
    intro h
    have e : (fun v => (sel A k (p :: ps) v).length) = fun v => (if gval A k p = v then 1 else 0) + (sel A k ps v).length := by
      funext v
      unfold sel
      rw [List.filter_cons]
      by_cases hv : gval A k p = v
      · rw [if_pos (by simpa using hv), if_pos hv, List.length_cons]; omega
      · rw [if_neg (by simpa using hv), if_neg hv]; omega
    rw [e, sum_add, sum_one hn (h p (by simp)), ih (fun q hq => h q (by simp [hq])), List.length_cons]; omega
theorem nodup_of_sorted {l : List Nat} (h : l.Pairwise (· < ·)) : l.Nodup := h.imp (fun h => Nat.ne_of_lt h)
theorem card_sum (A : List (List Nat)) (k s : Nat) : ((divS A k s).map fun g => (bitsOf g.2).length).sum = (bitsOf s).length := by
  have L := gfold_law A k (bitsOf s)
  rw [divS_eq, List.map_map]
  have e : ((fun g : Nat × Nat => (bitsOf g.2).length) ∘ fun v => (v, mask (pInts (sel A k (bitsOf s) v)))) = fun v => (sel A k (bitsOf s) v).length := by
    funext v; simp only [Function.comp, sel]; rw [bits_mask]
  rw [e]
  exact sel_sum A k (nodup_of_sorted L.sorted) _ fun p hp => (L.vals _).2 ⟨p, hp, rfl⟩
theorem card_pos {A : List (List Nat)} {k s : Nat} {g : Nat × Nat} (hg : g ∈ divS A k s) : 0 < (bitsOf g.2).length := by
  rw [divS_eq] at hg
  simp only [List.mem_map] at hg
  obtain ⟨v, hv, rfl⟩ := hg
  obtain ⟨p, hp, e⟩ := ((gfold_law A k (bitsOf s)).vals v).1 hv
  unfold sel; rw [bits_mask]
  exact List.length_pos_of_mem (a := p) (List.mem_filter.2 ⟨hp, by simpa using e⟩)
/-- The first input whose depth is the set's. -/
def inp (A : List (List Nat)) (m s : Nat) : Nat := ((List.range m).find? fun k => aft A m k s == dep A m s).getD 0
theorem lst_pick : ∀ (l : List Nat) (f : Nat → Nat) (b : Nat), l.foldl (fun a k => lst a (f k)) b = b ∨ ∃ k ∈ l, l.foldl (fun a k => lst a (f k)) b = f k
  | [], _, _ => .inl rfl
  | k :: l, f, b => by
    rw [List.foldl_cons]
    rcases lst_pick l f (lst b (f k)) with h | ⟨k', hk', h⟩
    · rw [h]
      unfold lst
      split
      · exact .inr ⟨k, by simp, rfl⟩
      · exact .inl rfl
    · exact .inr ⟨k', by simp [hk'], h⟩
theorem inp_spec {A : List (List Nat)} {m s : Nat} (h : dep A m s ≠ 0) : inp A m s < m ∧ aft A m (inp A m s) s = dep A m s ∧ (∀ k, k < inp A m s → aft A m k s ≠ dep A m s) ∧ 2 ≤ (divS A (inp A m s) s).length := by
  obtain ⟨k, hk, e⟩ : ∃ k, k < m ∧ aft A m k s = dep A m s := by
    have h1 := dep_eq A m s
    rcases lst_pick (List.range m) (fun k => aft A m k s) 0 with h2 | ⟨k, hk, h2⟩
    · rw [← h1] at h2; exact absurd h2 h
    · exact ⟨k, by simpa using hk, by rw [← h2, ← h1]⟩
  have hf : ∃ k', (List.range m).find? (fun k => aft A m k s == dep A m s) = some k' := by
    cases hq : (List.range m).find? (fun k => aft A m k s == dep A m s) with
    | some k' => exact ⟨k', rfl⟩
    | none =>
      rw [List.find?_eq_none] at hq
      exact absurd (by simpa using e) (hq k (by simpa using hk))
  obtain ⟨k', hk'⟩ := hf
  have hi : inp A m s = k' := by unfold inp; rw [hk']; rfl
  rw [hi]
  have h1 := List.find?_some hk'
  have h2 := List.mem_of_find?_eq_some hk'
  have h3 : aft A m k' s = dep A m s := by simpa using h1
  refine ⟨by simpa using h2, h3, fun j hj => ?_, ?_⟩
  · rw [List.find?_range_eq_some] at hk'
    have := hk'.2.2 j hj
    simpa using this
  · unfold aft aftF at h3
    split at h3
    · omega
    · omega
abbrev Ask := Nat × List Nat × List Int
/-- The questions of a set, whose places begin at n. -/
def planF (A : List (List Nat)) (m : Nat) : Nat → Nat → Nat → List Ask
  | 0, _, _ => []
  | f + 1, s, n => if dep A m s = 0 then [] else
    let r := (divS A (inp A m s) s).foldl (fun (st : List Int × List Ask) g => (st.1 ++ [if dep A m g.2 = 0 then -1 else ((n + 1 + st.2.length : Nat) : Int)], st.2 ++ planF A m f g.2 (n + 1 + st.2.length))) ([], [])
    (inp A m s, (divS A (inp A m s) s).map (·.1), r.1) :: r.2
/-- The groups that are done. -/
def stepF (A : List (List Nat)) (m f n : Nat) (gs : List (Nat × Nat)) : List Int × List Ask :=
  gs.foldl (fun (st : List Int × List Ask) g => (st.1 ++ [if dep A m g.2 = 0 then -1 else ((n + 1 + st.2.length : Nat) : Int)], st.2 ++ planF A m f g.2 (n + 1 + st.2.length))) ([], [])
theorem stepF_snoc (A : List (List Nat)) (m f n : Nat) (gs : List (Nat × Nat)) (g : Nat × Nat) : stepF A m f n (gs ++ [g]) = ((stepF A m f n gs).1 ++ [if dep A m g.2 = 0 then -1 else ((n + 1 + (stepF A m f n gs).2.length : Nat) : Int)], (stepF A m f n gs).2 ++ planF A m f g.2 (n + 1 + (stepF A m f n gs).2.length)) := by
  unfold stepF; rw [List.foldl_append]; rfl
theorem stepF_len (A : List (List Nat)) (m f n : Nat) (gs : List (Nat × Nat)) : (stepF A m f n gs).1.length = gs.length := by
  have h : ∀ k, k ≤ gs.length → (stepF A m f n (gs.take k)).1.length = k := by
    intro k
    induction k with
    | zero => intro _; rfl
    | succ k ih => intro hk; rw [List.take_succ_eq_append_getElem (by omega), stepF_snoc]; simp [ih (by omega)]
  have := h gs.length (Nat.le_refl _)
  rwa [List.take_length] at this
theorem planF_succ (A : List (List Nat)) (m f s n : Nat) (h : dep A m s ≠ 0) : planF A m (f + 1) s n = (inp A m s, (divS A (inp A m s) s).map (·.1), (stepF A m f n (divS A (inp A m s) s)).1) :: (stepF A m f n (divS A (inp A m s) s)).2 := by
  rw [planF, if_neg h]; rfl
theorem planF_zero (A : List (List Nat)) (m f s n : Nat) (h : dep A m s = 0) : planF A m f s n = [] := by
  cases f with
  | zero => rfl
  | succ f => rw [planF, if_pos h]
/-- How many questions: less than programs. -/
theorem planF_len (A : List (List Nat)) (m : Nat) : ∀ f s n, (planF A m f s n).length ≤ (bitsOf s).length - 1 := by
  intro f
  induction f with
  | zero => intro s n; simp [planF]
  | succ f ih =>
    intro s n
    by_cases hd : dep A m s = 0
    · rw [planF_zero _ _ _ _ _ hd]; simp
    · rw [planF_succ _ _ _ _ _ hd, List.length_cons]
      obtain ⟨hi, _, _, h2⟩ := inp_spec hd
      have hc := card_sum A (inp A m s) s
      have hp : ∀ g ∈ divS A (inp A m s) s, 0 < (bitsOf g.2).length := fun g hg => card_pos hg
      generalize divS A (inp A m s) s = gs at *
      have h : ∀ k, k ≤ gs.length → (stepF A m f n (gs.take k)).2.length + k ≤ ((gs.take k).map fun g => (bitsOf g.2).length).sum := by
        intro k
        induction k with
        | zero => intro _; simp [stepF]
        | succ k ih2 =>
          intro hk
          rw [List.take_succ_eq_append_getElem (by omega), stepF_snoc, List.map_append, List.sum_append, List.length_append]
          have h3 := ih2 (by omega)
          have h4 := ih (gs[k]).2 (n + 1 + (stepF A m f n (gs.take k)).2.length)
          have h5 := hp gs[k] (List.getElem_mem _)
          simp only [List.map_cons, List.map_nil, List.sum_cons, List.sum_nil]
          omega
      have := h gs.length (Nat.le_refl _)
      rw [List.take_length] at this
      omega
end Go.Proofs.YtoiemkifgdnhaaaGreatDoor
namespace Go.Proofs.YtoiemkifgdnhaaaGreatDoor
open Go Go.RowKit
def askC (o : Nat × Value × Value) : List Value := [.int .i64 o.1, o.2.1, o.2.2]
/-- The questions lie in the call's own row v; of each, its answers and its places in rows of their own. -/
structure AsksAt (w : World) (B : Nat) (v : Value) (qs : List Ask) (os : List (Nat × Value × Value)) : Prop where
  own : w.ownsRow B 59 3 v qs.length (os.flatMap askC)
  len : os.length = qs.length
  inn : ∀ (i : Nat) (o : Nat × Value × Value) (a : Ask), os[i]? = some o → qs[i]? = some a → o.1 = a.1 ∧ (∃ zs, zs.map (·.1) = a.2.1 ∧ w.ownsRow B 47 7 o.2.1 zs.length (cvs zs)) ∧ w.ownsRow B 3 1 o.2.2 a.2.2.length (ci a.2.2)
  ap1 : Apart (os.map (·.2.1))
  ap2 : Apart (os.map (·.2.2))
theorem AsksAt.nil (w : World) (B : Nat) : AsksAt w B (.slice none 0 0) [] [] :=
  ⟨World.ownsRow_nil _ _ _ _, rfl, by simp, fun j k u u' g _ h => by simp at h, fun j k u u' g _ h => by simp at h⟩
/-- An own row is no map's block. -/
theorem own_no_map {w : World} {B : Nat} {e : TypeId} {s n : Nat} {v : Value} {xs : List Value} {r : Nat} {k : IntKind} {l : List (Int × Value)} (h : w.ownsRow B e s v n xs) (hm : MapAt w r k l) : v.ownBlock = none ∨ v.ownBlock ≠ some r := by
  rcases h.2 with ⟨rfl, _⟩ | ⟨g, cap, cur, rfl, _, hg, _⟩
  · exact .inl rfl
  · right
    obtain ⟨es, c, h1, _⟩ := hm
    simp only [Value.ownBlock, ne_eq, Option.some.injEq]
    intro e; subst e; rw [hg] at h1; simp at h1
/-- It stays where no block of it is touched. -/
theorem AsksAt.kept {w w' : World} {B : Nat} {v : Value} {qs : List Ask} {os : List (Nat × Value × Value)} (h : AsksAt w B v qs os)
    (hk : ∀ (e : TypeId) (s : Nat) (u : Value) (n : Nat) (xs : List Value), w.ownsRow B e s u n xs → w'.ownsRow B e s u n xs) : AsksAt w' B v qs os :=
  ⟨hk _ _ _ _ _ h.own, h.len, fun i o a ho ha => by
    obtain ⟨h1, ⟨zs, h2, h3⟩, h4⟩ := h.inn i o a ho ha
    exact ⟨h1, ⟨zs, h2, hk _ _ _ _ _ h3⟩, hk _ _ _ _ _ h4⟩, h.ap1, h.ap2⟩
theorem AsksAt.below {w w' : World} {B : Nat} {v : Value} {qs : List Ask} {os : List (Nat × Value × Value)} (h : AsksAt w B v qs os) (hb : Below w.heap.size w w') : AsksAt w' B v qs os :=
  h.kept fun _ _ _ _ _ h => own_below h hb
theorem AsksAt.mapped {w w' : World} {B r : Nat} {v : Value} {qs : List Ask} {os : List (Nat × Value × Value)} {k : IntKind} {l : List (Int × Value)} (h : AsksAt w B v qs os) (hm : MapAt w r k l) (hg : w.grownBy w' (some r)) : AsksAt w' B v qs os :=
  h.kept fun _ _ _ _ _ h => h.kept hg (own_no_map h hm)
theorem AsksAt.setq {w : World} {q o : Nat} {v u : Value} {qs : List Ask} {os : List (Nat × Value × Value)} (h : AsksAt w (q + 1) v qs os) : AsksAt (w.setCell ⟨q, o, none⟩ u) (q + 1) v qs os :=
  h.kept fun _ _ _ _ _ h => ownsRow_setCell_other h (fun e => Nat.not_succ_le_self q (h.lt q e).1) u
theorem flat3_get (os : List (Nat × Value × Value)) {k j : Nat} (hj : j < 3) : (os.flatMap askC)[k * 3 + j]? = (os[k]?).bind fun z => (askC z)[j]? := flat_get askC 3 (fun _ => rfl) os k j hj
theorem flat3_len (os : List (Nat × Value × Value)) : (os.flatMap askC).length = os.length * 3 := flat_len askC 3 (fun _ => rfl) os
/-- A new question is put behind. -/
theorem AsksAt.push {w w' : World} {B k : Nat} {v v' : Value} {qs : List Ask} {os : List (Nat × Value × Value)} (h : AsksAt w B v qs os)
    (hown : w'.ownsRow B 59 3 v' (qs.length + 1) (os.flatMap askC ++ [.int .i64 k, .slice none 0 0, .slice none 0 0])) (hg : w.grownBy w' v.ownBlock) : AsksAt w' B v' (qs ++ [(k, [], [])]) (os ++ [(k, .slice none 0 0, .slice none 0 0)]) := by
  have apx : ∀ (l : List Value), Apart l → Apart (l ++ [.slice none 0 0]) := by
    intro l hl j i u u' g hji hu hu' hgu hgu'
    by_cases h1 : j < l.length
    · by_cases h2 : i < l.length
      · rw [List.getElem?_append_left h1] at hu; rw [List.getElem?_append_left h2] at hu'
        exact hl j i u u' g hji hu hu' hgu hgu'
      · rw [List.getElem?_append_right (by omega)] at hu'
        rcases hn : i - l.length with _ | n
        · rw [hn] at hu'; cases hu'; simp [Value.ownBlock] at hgu'
        · rw [hn] at hu'; simp at hu'
    · rw [List.getElem?_append_right (by omega)] at hu
      rcases hn : j - l.length with _ | n
      · rw [hn] at hu; cases hu; simp [Value.ownBlock] at hgu
      · rw [hn] at hu; simp at hu
  refine ⟨?_, by simp [h.len], ?_, ?_, ?_⟩
  · rw [List.length_append, List.length_singleton, List.flatMap_append]; simpa [askC] using hown
  · intro i o a ho ha
    by_cases h1 : i < qs.length
    · rw [List.getElem?_append_left (by rw [h.len]; exact h1)] at ho
      rw [List.getElem?_append_left h1] at ha
      obtain ⟨k1, ⟨zs, k2, k3⟩, k4⟩ := h.inn i o a ho ha
      exact ⟨k1, ⟨zs, k2, k3.kept hg (own_apart k3 h.own (by decide))⟩, k4.kept hg (own_apart k4 h.own (by decide))⟩
    · rw [List.getElem?_append_right (by rw [h.len]; omega)] at ho
      rw [List.getElem?_append_right (by omega)] at ha
      rw [h.len] at ho
      rcases hn : i - qs.length with _ | n
      · rw [hn] at ho ha; cases ho; cases ha
        exact ⟨rfl, ⟨[], rfl, World.ownsRow_nil _ _ _ _⟩, World.ownsRow_nil _ _ _ _⟩
      · rw [hn] at ho; simp at ho
  · rw [List.map_append]; exact apx _ h.ap1
  · rw [List.map_append]; exact apx _ h.ap2
/-- What changes: only the blocks of S. -/
def Fx (w w' : World) (S : Nat → Prop) : Prop := w'.os = w.os ∧ w'.tape = w.tape ∧ w'.output = w.output ∧ w.heap.size ≤ w'.heap.size ∧ ∀ b, b < w.heap.size → ¬ S b → w'.heap[b]? = w.heap[b]?
theorem Fx.refl (w : World) (S : Nat → Prop) : Fx w w S := ⟨rfl, rfl, rfl, Nat.le_refl _, fun _ _ _ => rfl⟩
theorem Fx.trans {a b c : World} {S S' : Nat → Prop} (h : Fx a b S) (k : Fx b c S') (hS : ∀ x, x < a.heap.size → S' x → S x) : Fx a c S :=
  ⟨k.1.trans h.1, k.2.1.trans h.2.1, k.2.2.1.trans h.2.2.1, Nat.le_trans h.2.2.2.1 k.2.2.2.1, fun x hx hn => (k.2.2.2.2 x (Nat.lt_of_lt_of_le hx h.2.2.2.1) fun hs => hn (hS x hx hs)).trans (h.2.2.2.2 x hx hn)⟩
theorem Fx.of_grown {w w' : World} {row : Option Nat} (h : w.grownBy w' row) : Fx w w' (fun b => row = some b) :=
  ⟨h.os, h.tape, h.output, h.size, fun b hb hn => h.block b hb (fun e => hn e.symm)⟩
theorem Fx.of_below {w w' : World} (S : Nat → Prop) (h : Below w.heap.size w w') : Fx w w' S := ⟨h.os, h.tape, h.output, h.size, fun b hb _ => h.block b hb⟩
theorem Fx.mono {w w' : World} {S S' : Nat → Prop} (h : Fx w w' S) (hs : ∀ b, b < w.heap.size → S b → S' b) : Fx w w' S' := ⟨h.1, h.2.1, h.2.2.1, h.2.2.2.1, fun b hb hn => h.2.2.2.2 b hb fun k => hn (hs b hb k)⟩
theorem Fx.set {w : World} {b o : Nat} {u : Value} : Fx w (w.setCell ⟨b, o, none⟩ u) (fun x => x = b) := by
  have hb : Below 0 w (w.setCell ⟨b, o, none⟩ u) := (Below.refl 0 w).setCell (Nat.zero_le _) _
  refine ⟨hb.os, hb.tape, hb.output, hb.size, fun x hx hn => ?_⟩
  show (w.heap.modify b _)[x]? = _
  rw [Array.getElem?_modify, if_neg (fun e => hn e.symm)]
theorem Fx.to_below {w0 w w' : World} {S : Nat → Prop} (hb : Below w0.heap.size w0 w) (h : Fx w w' S) (hs : ∀ b, S b → w0.heap.size ≤ b) : Below w0.heap.size w0 w' :=
  Below.mk (h.1.trans hb.os) (h.2.1.trans hb.tape) (h.2.2.1.trans hb.output) (Nat.le_trans hb.size h.2.2.2.1) fun b hlt => (h.2.2.2.2 b (Nat.lt_of_lt_of_le hlt hb.size) fun k => by have := hs b k; omega).trans (hb.block b hlt)
end Go.Proofs.YtoiemkifgdnhaaaGreatDoor
namespace Go.Proofs.YtoiemkifgdnhaaaGreatDoor
open Go Go.RowKit
/-- The question at at_. -/
structure RE (w : World) (B qa n cap : Nat) (qs : List Ask) (os : List (Nat × Value × Value)) (at_ k0 : Nat) (zs : List (Nat × Option Addr × Nat)) (nsB : List Int) (uA uB : Value) : Prop where
  h : AsksAt w B (.slice (some ⟨qa, 0, none⟩) n cap) qs os
  hn : n = qs.length
  ho : os[at_]? = some (k0, uA, uB)
  ha : qs[at_]? = some (k0, zs.map (·.1), nsB)
  rA : w.ownsRow B 47 7 uA zs.length (cvs zs)
  rB : w.ownsRow B 3 1 uB nsB.length (ci nsB)
/-- The blocks that the statement writes. -/
def RS (qa : Nat) (uA uB : Value) (b : Nat) : Prop := b = qa ∨ uA.ownBlock = some b ∨ uB.ownBlock = some b
/-- What holds all along. -/
structure RC (w : World) (B qa n cap : Nat) (qs : List Ask) (os : List (Nat × Value × Value)) (at_ k0 : Nat) (uA uB eA eB : Value) (w' : World) : Prop where
  fx : Fx w w' (RS qa uA uB)
  arr : w'.ownsRow B 59 3 (.slice (some ⟨qa, 0, none⟩) n cap) n ((os.set at_ (k0, eA, eB)).flatMap askC)
  oth : ∀ (i : Nat) (o : Nat × Value × Value) (a : Ask), i ≠ at_ → os[i]? = some o → qs[i]? = some a → o.1 = a.1 ∧ (∃ zs, zs.map (·.1) = a.2.1 ∧ w'.ownsRow B 47 7 o.2.1 zs.length (cvs zs)) ∧ w'.ownsRow B 3 1 o.2.2 a.2.2.length (ci a.2.2)
/-- A slice of one new element. -/
def One (w w' : World) (e : TypeId) (cs : List Value) (v : Value) : Prop := ∃ b, v = .slice (some ⟨b, 0, none⟩) 1 1 ∧ w.heap.size ≤ b ∧ w'.heap[b]? = some (.cells cs.toArray e)
/-- A row that came of an append. -/
def New (w w' : World) (B : Nat) (e : TypeId) (s : Nat) (u : Value) (n : Nat) (xs : List Value) (v : Value) : Prop := w'.ownsRow B e s v n xs ∧ (v.ownBlock = u.ownBlock ∨ ∀ g, v.ownBlock = some g → w.heap.size ≤ g)
section
variable {w : World} {B qa n cap at_ k0 : Nat} {qs : List Ask} {os : List (Nat × Value × Value)} {zs : List (Nat × Option Addr × Nat)} {nsB : List Int} {uA uB eA eB : Value} {w' w'' : World} {row : Option Nat}
theorem RE.qlt (E : RE w B qa n cap qs os at_ k0 zs nsB uA uB) : qa < w.heap.size := (E.h.own.lt qa rfl).2
theorem RE.start (E : RE w B qa n cap qs os at_ k0 zs nsB uA uB) : RC w B qa n cap qs os at_ k0 uA uB uA uB w := by
  refine ⟨Fx.refl _ _, ?_, fun i o a _ => E.h.inn i o a⟩
  have e : os.set at_ (k0, uA, uB) = os := by
    apply List.ext_getElem?
    intro i
    rw [List.getElem?_set]
    by_cases h : at_ = i
    · subst h; rw [if_pos rfl, E.ho]; simp [(List.getElem?_eq_some_iff.1 E.ho).1]
    · rw [if_neg h]
  rw [e, E.hn]
  have := E.h.own
  rw [E.hn] at this
  exact this
/-- It stays while rows of values, of ints grow. -/
theorem RC.kept (E : RE w B qa n cap qs os at_ k0 zs nsB uA uB) (h : RC w B qa n cap qs os at_ k0 uA uB eA eB w') (hg : w'.grownBy w'' row) (hr : row = none ∨ row = uA.ownBlock ∨ row = uB.ownBlock) : RC w B qa n cap qs os at_ k0 uA uB eA eB w'' := by
  have hne : ∀ g, row = some g → RS qa uA uB g := by
    intro g hg
    rcases hr with h | h | h
    · rw [h] at hg; cases hg
    · exact .inr (.inl (h ▸ hg))
    · exact .inr (.inr (h ▸ hg))
  have hq : row ≠ some qa := by
    intro e
    rcases hr with h | h | h
    · rw [h] at e; cases e
    · have := own_apart E.rA E.h.own (by decide)
      rw [← h, e] at this; simp [Value.ownBlock] at this
    · have := own_apart E.rB E.h.own (by decide)
      rw [← h, e] at this; simp [Value.ownBlock] at this
  have hA : ∀ (i : Nat) (o : Nat × Value × Value), i ≠ at_ → os[i]? = some o → (o.2.1.ownBlock = none ∨ o.2.1.ownBlock ≠ uA.ownBlock) ∧ (o.2.2.ownBlock = none ∨ o.2.2.ownBlock ≠ uB.ownBlock) := by
    intro i o hi ho
    have m1 : (os.map (·.2.1))[i]? = some o.2.1 := by rw [List.getElem?_map, ho]; rfl
    have m2 : (os.map (·.2.1))[at_]? = some uA := by rw [List.getElem?_map, E.ho]; rfl
    have m3 : (os.map (·.2.2))[i]? = some o.2.2 := by rw [List.getElem?_map, ho]; rfl
    have m4 : (os.map (·.2.2))[at_]? = some uB := by rw [List.getElem?_map, E.ho]; rfl
    constructor
    · rcases hb : o.2.1.ownBlock with _ | g
      · exact .inl rfl
      · right; intro e; exact E.h.ap1 i at_ _ _ g hi m1 m2 hb e.symm
    · rcases hb : o.2.2.ownBlock with _ | g
      · exact .inl rfl
      · right; intro e; exact E.h.ap2 i at_ _ _ g hi m3 m4 hb e.symm
  refine ⟨h.fx.trans (Fx.of_grown hg) (fun x _ hx => hne x hx), h.arr.kept hg (.inr (by simp only [Value.ownBlock, ne_eq]; exact fun e => hq e.symm)), fun i o a hi ho ha => ?_⟩
  obtain ⟨k1, ⟨zs', k2, k3⟩, k4⟩ := h.oth i o a hi ho ha
  have ho1 := E.h.inn i o a ho ha
  obtain ⟨_, ⟨zs2, _, j3⟩, j4⟩ := ho1
  obtain ⟨a1, a2⟩ := hA i o hi ho
  refine ⟨k1, ⟨zs', k2, k3.kept hg ?_⟩, k4.kept hg ?_⟩
  · rcases hr with h | h | h
    · rw [h]; cases o.2.1.ownBlock <;> simp
    · rw [h]; exact a1
    · rw [h]; exact own_apart j3 E.rB (by decide)
  · rcases hr with h | h | h
    · rw [h]; cases o.2.2.ownBlock <;> simp
    · rw [h]; exact own_apart j4 E.rA (by decide)
    · rw [h]; exact a2
theorem flat3_set (os : List (Nat × Value × Value)) {i : Nat} (hi : i < os.length) (k : Nat) (a b a' b' : Value) :
    ((os.set i (k, a, b)).flatMap askC).set (i * 3 + 1) a' = (os.set i (k, a', b)).flatMap askC ∧ ((os.set i (k, a, b)).flatMap askC).set (i * 3 + 2) b' = (os.set i (k, a, b')).flatMap askC := by
  have hl : ∀ z : Nat × Value × Value, ((os.set i z).flatMap askC).length = os.length * 3 := fun z => by rw [flat3_len, List.length_set]
  have key : ∀ (j : Nat), j < os.length * 3 → ∃ p r, j = p * 3 + r ∧ r < 3 ∧ p < os.length := fun j hj => ⟨j / 3, j % 3, by omega, by omega, by omega⟩
  have gg : ∀ (l : List (Nat × Value × Value)) (j : Nat), ¬ j < l.length * 3 → (l.flatMap askC)[j]? = none := fun l j hj => by rw [List.getElem?_eq_none_iff, flat3_len]; omega
  constructor
  · apply List.ext_getElem?
    intro j
    rw [List.getElem?_set]
    by_cases hj : j < os.length * 3
    · obtain ⟨p, r, rfl, hr, hp⟩ := key j hj
      rw [flat3_get _ hr, flat3_get _ hr, hl]
      by_cases hpi : i = p
      · subst hpi
        rw [List.getElem?_set_self hi, List.getElem?_set_self hi]
        rcases r with _ | _ | _ | r
        · simp [askC]
        · simp [askC]; omega
        · simp [askC]
        · omega
      · rw [List.getElem?_set_ne hpi, List.getElem?_set_ne hpi, if_neg (by omega)]
    · rw [gg _ _ (by rw [List.length_set]; exact hj), gg _ _ (by rw [List.length_set]; exact hj), if_neg (by omega)]
  · apply List.ext_getElem?
    intro j
    rw [List.getElem?_set]
    by_cases hj : j < os.length * 3
    · obtain ⟨p, r, rfl, hr, hp⟩ := key j hj
      rw [flat3_get _ hr, flat3_get _ hr, hl]
      by_cases hpi : i = p
      · subst hpi
        rw [List.getElem?_set_self hi, List.getElem?_set_self hi]
        rcases r with _ | _ | _ | r
        · simp [askC]
        · simp [askC]
        · simp [askC]; omega
        · omega
      · rw [List.getElem?_set_ne hpi, List.getElem?_set_ne hpi, if_neg (by omega)]
    · rw [gg _ _ (by rw [List.length_set]; exact hj), gg _ _ (by rw [List.length_set]; exact hj), if_neg (by omega)]
/-- The stores. -/
theorem RC.setA (E : RE w B qa n cap qs os at_ k0 zs nsB uA uB) (h : RC w B qa n cap qs os at_ k0 uA uB eA eB w') (e : Value) : RC w B qa n cap qs os at_ k0 uA uB e eB (w'.setCell ⟨qa, at_ * 3 + 1, none⟩ e) := by
  have hi := (List.getElem?_eq_some_iff.1 E.ho).1
  refine ⟨h.fx.trans Fx.set (fun x _ hx => .inl hx), ?_, fun i o a hi ho ha => ?_⟩
  · rw [← (flat3_set os hi k0 eA eB e eB).1]; exact (h.arr.stored _ _).1
  · obtain ⟨k1, ⟨zs', k2, k3⟩, k4⟩ := h.oth i o a hi ho ha
    have n1 : o.2.1.ownBlock ≠ some qa := fun e => by have := own_apart k3 h.arr (by decide); rw [e] at this; simp [Value.ownBlock] at this
    have n2 : o.2.2.ownBlock ≠ some qa := fun e => by have := own_apart k4 h.arr (by decide); rw [e] at this; simp [Value.ownBlock] at this
    exact ⟨k1, ⟨zs', k2, ownsRow_setCell_other k3 n1 _⟩, ownsRow_setCell_other k4 n2 _⟩
theorem RC.setB (E : RE w B qa n cap qs os at_ k0 zs nsB uA uB) (h : RC w B qa n cap qs os at_ k0 uA uB eA eB w') (e : Value) : RC w B qa n cap qs os at_ k0 uA uB eA e (w'.setCell ⟨qa, at_ * 3 + 2, none⟩ e) := by
  have hi := (List.getElem?_eq_some_iff.1 E.ho).1
  refine ⟨h.fx.trans Fx.set (fun x _ hx => .inl hx), ?_, fun i o a hi ho ha => ?_⟩
  · rw [← (flat3_set os hi k0 eA eB eA e).2]; exact (h.arr.stored _ _).1
  · obtain ⟨k1, ⟨zs', k2, k3⟩, k4⟩ := h.oth i o a hi ho ha
    have n1 : o.2.1.ownBlock ≠ some qa := fun e => by have := own_apart k3 h.arr (by decide); rw [e] at this; simp [Value.ownBlock] at this
    have n2 : o.2.2.ownBlock ≠ some qa := fun e => by have := own_apart k4 h.arr (by decide); rw [e] at this; simp [Value.ownBlock] at this
    exact ⟨k1, ⟨zs', k2, ownsRow_setCell_other k3 n1 _⟩, ownsRow_setCell_other k4 n2 _⟩
end
end Go.Proofs.YtoiemkifgdnhaaaGreatDoor
namespace Go.Proofs.YtoiemkifgdnhaaaGreatDoor
open Go Go.RowKit
section
variable {w : World} {B qa n cap at_ k0 : Nat} {qs : List Ask} {os : List (Nat × Value × Value)} {zs : List (Nat × Option Addr × Nat)} {nsB : List Int} {uA uB eA eB : Value} {w' w'' : World} {row : Option Nat}
theorem One.kept {e : TypeId} {cs : List Value} {v : Value} (h : One w w' e cs v) (hg : w'.grownBy w'' row) (hr : ∀ g, row = some g → g < w.heap.size) : One w w'' e cs v := by
  obtain ⟨b, h1, h2, h3⟩ := h
  refine ⟨b, h1, h2, ?_⟩
  rw [hg.block b (Array.getElem?_eq_some_iff.1 h3).1 (fun e => by have := hr b e.symm; omega)]
  exact h3
theorem One.cells {e : TypeId} {cs : List Value} {b : Nat} (h : w'.heap[b]? = some (.cells cs.toArray e)) : ∀ j u, cs[j]? = some u → w'.cell? ((⟨b, 0, none⟩ : Addr).add j) = some u := by
  intro j u hu
  have e0 : (⟨b, 0, none⟩ : Addr).add j = ⟨b, 0 + j, none⟩ := Addr.add_lit _ _ _
  rw [e0, cell_of_row _ _ _ _ _ _ h, Nat.zero_add]; simpa using hu
theorem New.kept {e : TypeId} {s m : Nat} {u v : Value} {xs : List Value} (h : New w w' B e s u m xs v) (hg : w'.grownBy w'' row) (hr : v.ownBlock = none ∨ v.ownBlock ≠ row) : New w w'' B e s u m xs v := ⟨h.1.kept hg hr, h.2⟩
/-- The statement has been carried out. -/
theorem RC.done (E : RE w B qa n cap qs os at_ k0 zs nsB uA uB) (h : RC w B qa n cap qs os at_ k0 uA uB eA eB w') {z : Nat × Option Addr × Nat} {nx : Int}
    (hA : New w w' B 47 7 uA (zs.length + 1) (cvs (zs ++ [z])) eA) (hB : New w w' B 3 1 uB (nsB.length + 1) (ci (nsB ++ [nx])) eB) :
    AsksAt w' B (.slice (some ⟨qa, 0, none⟩) n cap) (qs.set at_ (k0, (zs ++ [z]).map (·.1), nsB ++ [nx])) (os.set at_ (k0, eA, eB)) := by
  have hi := (List.getElem?_eq_some_iff.1 E.ho).1
  have hi2 := (List.getElem?_eq_some_iff.1 E.ha).1
  refine ⟨by rw [List.length_set, ← E.hn]; exact h.arr, by rw [List.length_set, List.length_set]; exact E.h.len, fun i o a ho ha => ?_, ?_, ?_⟩
  · by_cases hia : i = at_
    · subst hia
      rw [List.getElem?_set_self hi] at ho; rw [List.getElem?_set_self hi2] at ha
      cases ho; cases ha
      exact ⟨rfl, ⟨zs ++ [z], rfl, by simpa using hA.1⟩, by simpa using hB.1⟩
    · rw [List.getElem?_set_ne (Ne.symm hia)] at ho ha
      exact h.oth i o a hia ho ha
  · have hlt : ∀ (i : Nat) (u : Value) (g : Nat), (os.map (·.2.1))[i]? = some u → u.ownBlock = some g → g < w.heap.size := by
      intro i u g hu hg
      rw [List.getElem?_map] at hu
      cases ho : os[i]? with
      | none => rw [ho] at hu; simp at hu
      | some o =>
        rw [ho] at hu; simp at hu; subst hu
        have hl := (List.getElem?_eq_some_iff.1 ho).1
        obtain ⟨_, ⟨zs', _, k3⟩, _⟩ := E.h.inn i o (qs[i]'(by have := E.h.len; omega)) ho (by simp)
        exact (k3.lt g hg).2
    have m : (os.set at_ (k0, eA, eB)).map (·.2.1) = (os.map (·.2.1)).set at_ eA := by rw [List.map_set]
    have hm : (os.map (·.2.1))[at_]? = some uA := by rw [List.getElem?_map, E.ho]; rfl
    have hl : at_ < (os.map (·.2.1)).length := by simpa using hi
    have fr : ∀ (i : Nat) (u : Value) (g : Nat), i ≠ at_ → (os.map (·.2.1))[i]? = some u → u.ownBlock = some g → eA.ownBlock = some g → False := by
      intro i u g hne hu hg he
      rcases hA.2 with h1 | h1
      · exact E.h.ap1 i at_ _ _ g hne hu hm hg (by rw [← h1]; exact he)
      · have := h1 g he; have := hlt i u g hu hg; omega
    rw [m]
    intro i j u u' g hij hu hu' hg hg'
    by_cases h1 : at_ = i
    · subst h1
      rw [List.getElem?_set_self hl] at hu; cases hu
      rw [List.getElem?_set_ne hij] at hu'
      exact fr j u' g (Ne.symm hij) hu' hg' hg
    · rw [List.getElem?_set_ne h1] at hu
      by_cases h2 : at_ = j
      · subst h2
        rw [List.getElem?_set_self hl] at hu'; cases hu'
        exact fr i u g (Ne.symm h1) hu hg hg'
      · rw [List.getElem?_set_ne h2] at hu'
        exact E.h.ap1 i j u u' g hij hu hu' hg hg'
  · have hlt : ∀ (i : Nat) (u : Value) (g : Nat), (os.map (·.2.2))[i]? = some u → u.ownBlock = some g → g < w.heap.size := by
      intro i u g hu hg
      rw [List.getElem?_map] at hu
      cases ho : os[i]? with
      | none => rw [ho] at hu; simp at hu
      | some o =>
        rw [ho] at hu; simp at hu; subst hu
        have hl := (List.getElem?_eq_some_iff.1 ho).1
        obtain ⟨_, _, k4⟩ := E.h.inn i o (qs[i]'(by have := E.h.len; omega)) ho (by simp)
        exact (k4.lt g hg).2
    have m : (os.set at_ (k0, eA, eB)).map (·.2.2) = (os.map (·.2.2)).set at_ eB := by rw [List.map_set]
    have hm : (os.map (·.2.2))[at_]? = some uB := by rw [List.getElem?_map, E.ho]; rfl
    have hl : at_ < (os.map (·.2.2)).length := by simpa using hi
    have fr : ∀ (i : Nat) (u : Value) (g : Nat), i ≠ at_ → (os.map (·.2.2))[i]? = some u → u.ownBlock = some g → eB.ownBlock = some g → False := by
      intro i u g hne hu hg he
      rcases hB.2 with h1 | h1
      · exact E.h.ap2 i at_ _ _ g hne hu hm hg (by rw [← h1]; exact he)
      · have := h1 g he; have := hlt i u g hu hg; omega
    rw [m]
    intro i j u u' g hij hu hu' hg hg'
    by_cases h1 : at_ = i
    · subst h1
      rw [List.getElem?_set_self hl] at hu; cases hu
      rw [List.getElem?_set_ne hij] at hu'
      exact fr j u' g (Ne.symm hij) hu' hg' hg
    · rw [List.getElem?_set_ne h1] at hu
      by_cases h2 : at_ = j
      · subst h2
        rw [List.getElem?_set_self hl] at hu'; cases hu'
        exact fr i u g (Ne.symm h1) hu hg hg'
      · rw [List.getElem?_set_ne h2] at hu'
        exact E.h.ap2 i j u u' g hij hu hu' hg hg'
end
end Go.Proofs.YtoiemkifgdnhaaaGreatDoor
namespace Go.Proofs.YtoiemkifgdnhaaaGreatDoor
open Go Go.RowKit
theorem info_ask : (Tryz.prog.info? 59).map (fun i => (i.zero, i.size, i.bytes)) = some (some (.agg #[.int .i64 0, .slice none 0 0, .slice none 0 0]), 3, 56) := by kernel_rfl
theorem und_asks : Tryz.prog.underlying 27 = some (.slice 59) := by kernel_rfl
/-- A planner with the questions so far. -/
structure PX (w0 w : World) (q r : Nat) (A : List (List Nat)) (m : Nat) (v : Value) (qs : List Ask) (os : List (Nat × Value × Value)) : Prop where
  p : PW w0 w q r A m
  fz : ∀ o, w.frozen? ⟨q, o, none⟩ = false
  c2 : w.cell? ⟨q, 2, none⟩ = some v
  c34 : w.cell? ⟨q, 3, none⟩ = some (.int .i64 0) ∧ w.cell? ⟨q, 4, none⟩ = some (.int .i64 0)
  lie : AsksAt w (q + 1) v qs os
theorem no_map {w : World} {b o r : Nat} {u : Value} {k : IntKind} {l : List (Int × Value)} (h : w.cell? ⟨b, o, none⟩ = some u) (hm : MapAt w r k l) : b ≠ r := by
  intro e; subst e
  obtain ⟨es, c, h1, _⟩ := hm
  simp [World.cell?, h1] at h
theorem PX.mapped {w0 w w' : World} {q r m : Nat} {A : List (List Nat)} {v : Value} {qs : List Ask} {os : List (Nat × Value × Value)} (h : PX w0 w q r A m v qs os) (hg : w.grownBy w' (some r)) (hm : MemOk w' r A m) : PX w0 w' q r A m v qs os := by
  have hk := h.p.mem.kp hg hm
  obtain ⟨l, hl, _⟩ := h.p.mem
  have hq := no_map h.c2 hl
  refine ⟨h.p.grown hg hm, fun o => ?_, by rw [hk.2 _ _ h.p.lt]; exact h.c2, by rw [hk.2 _ _ h.p.lt, hk.2 _ _ h.p.lt]; exact h.c34, h.lie.mapped hl hg⟩
  rw [World.frozen?_of_block (w := w) (hg.block q h.p.lt (by simpa using hq))]; exact h.fz o
theorem PX.below {w0 w w' : World} {q r m : Nat} {A : List (List Nat)} {v : Value} {qs : List Ask} {os : List (Nat × Value × Value)} (h : PX w0 w q r A m v qs os) (hb : Below w.heap.size w w') : PX w0 w' q r A m v qs os :=
  h.mapped (grown_of_below hb) (h.p.mem.of hb)
/-- Where the questions lie anew, and the planner's other cells stay. -/
theorem PX.of {w0 w w' : World} {q r m : Nat} {A : List (List Nat)} {v v' : Value} {qs qs' : List Ask} {os os' : List (Nat × Value × Value)} (h : PX w0 w q r A m v qs os) {S : Nat → Prop} (hx : Fx w w' S) (hS : ∀ b, S b → w0.heap.size ≤ b) (hr : ¬ S r)
    (hc : ∀ o, o ≠ 2 → w'.cell? ⟨q, o, none⟩ = w.cell? ⟨q, o, none⟩) (hf : ∀ o, w'.frozen? ⟨q, o, none⟩ = false) (h2 : w'.cell? ⟨q, 2, none⟩ = some v') (ha : AsksAt w' (q + 1) v' qs' os') : PX w0 w' q r A m v' qs' os' := by
  obtain ⟨a, c, k1, k2⟩ := h.p.a
  obtain ⟨l, hl, hl2⟩ := h.p.mem
  have hm : MapAt w' r .u64 l := by
    obtain ⟨es, cl, e1, e2⟩ := hl
    exact ⟨es, cl, by rw [hx.2.2.2.2 r (Array.getElem?_eq_some_iff.1 e1).1 hr]; exact e1, e2⟩
  exact ⟨⟨hx.to_below h.p.b hS, h.p.hq, h.p.hr, Nat.lt_of_lt_of_le h.p.lt hx.2.2.2.1, h.p.g, h.p.gt, ⟨a, c, by rw [hc 0 (by omega)]; exact k1, k2⟩, by rw [hc 1 (by omega)]; exact h.p.d, ⟨l, hm, hl2⟩⟩, hf, h2, by rw [hc 3 (by omega), hc 4 (by omega)]; exact h.c34, ha⟩
def AskPost (A : List (List Nat)) (m f s q r : Nat) (v : Value) (qs : List Ask) (os : List (Nat × Value × Value)) (w0 w : World) (en : Ending) (w' : World) : Prop :=
  en = .returned (.int .i64 (if dep A m s = 0 then -1 else (qs.length : Int))) ∧ ∃ v' os', PX w0 w' q r A m v' (qs ++ planF A m f s qs.length) (os ++ os') ∧ Fx w w' (fun b => b = q ∨ b = r ∨ v.ownBlock = some b) ∧ ∀ g, v'.ownBlock = some g → v.ownBlock = some g ∨ w.heap.size ≤ g
theorem stepF_le (A : List (List Nat)) (m f n s k : Nat) (j : Nat) (hj : j ≤ (divS A k s).length) : (stepF A m f n ((divS A k s).take j)).2.length ≤ (bitsOf s).length := by
  have hc := card_sum A k s
  generalize divS A k s = gs at *
  have h : ∀ j, j ≤ gs.length → (stepF A m f n (gs.take j)).2.length ≤ ((gs.take j).map fun g => (bitsOf g.2).length).sum := by
    intro j
    induction j with
    | zero => intro _; simp [stepF]
    | succ j ih =>
      intro hj
      rw [List.take_succ_eq_append_getElem (by omega), stepF_snoc, List.map_append, List.sum_append, List.length_append]
      have h3 := ih (by omega)
      have h4 := planF_len A m f (gs[j]).2 (n + 1 + (stepF A m f n (gs.take j)).2.length)
      simp only [List.map_cons, List.map_nil, List.sum_cons, List.sum_nil]
      omega
  have h1 := h j hj
  have h2 : ((gs.take j).map fun g => (bitsOf g.2).length).sum ≤ (gs.map fun g => (bitsOf g.2).length).sum := by
    conv => rhs; rw [← List.take_append_drop j gs]
    rw [List.map_append, List.sum_append]; omega
  omega
end Go.Proofs.YtoiemkifgdnhaaaGreatDoor
namespace Go.Proofs.YtoiemkifgdnhaaaGreatDoor
open Go Go.RowKit
/-- What holds of the world by what has come up: the copy (8), its slice (9), the append (10), the place's slice (16), its append (17), the stores (20, 23). -/
structure WI (w : World) (B qa n cap : Nat) (qs : List Ask) (os : List (Nat × Value × Value)) (at_ k0 : Nat) (zs : List (Nat × Option Addr × Nat)) (nsB : List Int) (uA uB : Value) (x : Nat) (nx : Int)
    (b8 b9 b10 b16 b17 b20 b23 : Bool) (z8 z9 z10 z16 z17 : Value) (w' : World) : Prop where
  rc : RC w B qa n cap qs os at_ k0 uA uB (if b20 = true then z10 else uA) (if b23 = true then z17 else uB) w'
  c8 : b8 = true → ∃ c d, z8 = va x c d
  a0 : b10 = false → w'.ownsRow B 47 7 uA zs.length (cvs zs)
  a9 : b9 = true → b10 = false → ∃ c d, One w w' 47 (cv (x, c, d)) z9
  a10 : b10 = true → ∃ c d, New w w' B 47 7 uA (zs.length + 1) (cvs (zs ++ [(x, c, d)])) z10
  p0 : b17 = false → w'.ownsRow B 3 1 uB nsB.length (ci nsB)
  p16 : b16 = true → b17 = false → One w w' 3 [.int .i64 nx] z16
  p17 : b17 = true → New w w' B 3 1 uB (nsB.length + 1) (ci (nsB ++ [nx])) z17
section
variable {w : World} {B qa n cap at_ k0 : Nat} {qs : List Ask} {os : List (Nat × Value × Value)} {zs : List (Nat × Option Addr × Nat)} {nsB : List Int} {uA uB eA eB : Value} {x : Nat} {nx : Int} {b8 b9 b10 b16 b17 b20 b23 : Bool} {z8 z9 z10 z16 z17 : Value} {w' w'' : World}
theorem WI.start (E : RE w B qa n cap qs os at_ k0 zs nsB uA uB) : WI w B qa n cap qs os at_ k0 zs nsB uA uB x nx false false false false false false false z8 z9 z10 z16 z17 w :=
  ⟨by simpa using E.start, by simp, fun _ => E.rA, by simp, by simp, fun _ => E.rB, by simp, by simp⟩
theorem ne_none (u : Value) : u.ownBlock = none ∨ u.ownBlock ≠ none := by cases u.ownBlock <;> simp
/-- Whatever makes memory anew leaves it. -/
theorem WI.grown (E : RE w B qa n cap qs os at_ k0 zs nsB uA uB) (h : WI w B qa n cap qs os at_ k0 zs nsB uA uB x nx b8 b9 b10 b16 b17 b20 b23 z8 z9 z10 z16 z17 w') (hg : w'.grownBy w'' none) :
    WI w B qa n cap qs os at_ k0 zs nsB uA uB x nx b8 b9 b10 b16 b17 b20 b23 z8 z9 z10 z16 z17 w'' :=
  ⟨h.rc.kept E hg (.inl rfl), h.c8, fun k => (h.a0 k).kept hg (ne_none _), fun k k' => by obtain ⟨c, d, o⟩ := h.a9 k k'; exact ⟨c, d, o.kept hg (by simp)⟩,
    fun k => by obtain ⟨c, d, o⟩ := h.a10 k; exact ⟨c, d, o.kept hg (ne_none _)⟩, fun k => (h.p0 k).kept hg (ne_none _), fun k k' => (h.p16 k k').kept hg (by simp), fun k => (h.p17 k).kept hg (ne_none _)⟩
theorem WI.copied (E : RE w B qa n cap qs os at_ k0 zs nsB uA uB) (h : WI w B qa n cap qs os at_ k0 zs nsB uA uB x nx b8 b9 b10 b16 b17 b20 b23 z8 z9 z10 z16 z17 w') (hg : Below w'.heap.size w' w'') (c : Option Addr) (d : Nat) :
    WI w B qa n cap qs os at_ k0 zs nsB uA uB x nx true b9 b10 b16 b17 b20 b23 (va x c d) z9 z10 z16 z17 w'' := by
  have h2 := h.grown E (grown_of_below hg)
  exact ⟨h2.rc, fun _ => ⟨c, d, rfl⟩, h2.a0, h2.a9, h2.a10, h2.p0, h2.p16, h2.p17⟩
theorem WI.built9 (E : RE w B qa n cap qs os at_ k0 zs nsB uA uB) (h : WI w B qa n cap qs os at_ k0 zs nsB uA uB x nx b8 b9 b10 b16 b17 b20 b23 z8 z9 z10 z16 z17 w') (c : Option Addr) (d : Nat) :
    WI w B qa n cap qs os at_ k0 zs nsB uA uB x nx b8 true b10 b16 b17 b20 b23 z8 (.slice (some ⟨w'.heap.size, 0, none⟩) 1 1) z10 z16 z17 (w'.alloc (.cells (cv (x, c, d)).toArray 47)) := by
  have h2 := h.grown E (World.grownBy_alloc w' (.cells (cv (x, c, d)).toArray 47) none)
  exact ⟨h2.rc, h2.c8, h2.a0, fun _ _ => ⟨c, d, _, rfl, h.rc.fx.2.2.2.1, heap_alloc_new w' _⟩, h2.a10, h2.p0, h2.p16, h2.p17⟩
theorem WI.built16 (E : RE w B qa n cap qs os at_ k0 zs nsB uA uB) (h : WI w B qa n cap qs os at_ k0 zs nsB uA uB x nx b8 b9 b10 b16 b17 b20 b23 z8 z9 z10 z16 z17 w') :
    WI w B qa n cap qs os at_ k0 zs nsB uA uB x nx b8 b9 b10 true b17 b20 b23 z8 z9 z10 (.slice (some ⟨w'.heap.size, 0, none⟩) 1 1) z17 (w'.alloc (.cells #[.int .i64 nx] 3)) := by
  have h2 := h.grown E (World.grownBy_alloc w' (.cells #[.int .i64 nx] 3) none)
  exact ⟨h2.rc, h2.c8, h2.a0, h2.a9, h2.a10, h2.p0, fun _ _ => ⟨_, rfl, h.rc.fx.2.2.2.1, heap_alloc_new w' _⟩, h2.p17⟩
theorem WI.app10 (E : RE w B qa n cap qs os at_ k0 zs nsB uA uB) (h : WI w B qa n cap qs os at_ k0 zs nsB uA uB x nx b8 b9 false b16 false false false z8 z9 z10 z16 z17 w') {v : Value} {c : Option Addr} {d : Nat}
    (hown : w''.ownsRow B 47 7 v (zs.length + 1) (cvs (zs ++ [(x, c, d)]))) (hg : w'.grownBy w'' uA.ownBlock) (hf : v.ownBlock = uA.ownBlock ∨ ∀ g, v.ownBlock = some g → w'.heap.size ≤ g) :
    WI w B qa n cap qs os at_ k0 zs nsB uA uB x nx b8 b9 true b16 false false false z8 z9 v z16 z17 w'' := by
  have h1 := h.rc.kept E hg (.inr (.inl rfl))
  have hsz := h.rc.fx.2.2.2.1
  refine ⟨by simpa using h1, h.c8, by simp, fun _ k => by simp at k, fun _ => ⟨c, d, hown, hf.imp id (fun q g hgv => Nat.le_trans hsz (q g hgv))⟩, fun k => (h.p0 k).kept hg (own_apart E.rB E.rA (by decide)), fun k k' => (h.p16 k k').kept hg (fun g hgv => (E.rA.lt g hgv).2), by simp⟩
theorem WI.app17 (E : RE w B qa n cap qs os at_ k0 zs nsB uA uB) (h : WI w B qa n cap qs os at_ k0 zs nsB uA uB x nx b8 b9 true b16 false false false z8 z9 z10 z16 z17 w') {v : Value}
    (hown : w''.ownsRow B 3 1 v (nsB.length + 1) (ci (nsB ++ [nx]))) (hg : w'.grownBy w'' uB.ownBlock) (hf : v.ownBlock = uB.ownBlock ∨ ∀ g, v.ownBlock = some g → w'.heap.size ≤ g) :
    WI w B qa n cap qs os at_ k0 zs nsB uA uB x nx b8 b9 true b16 true false false z8 z9 z10 z16 v w'' := by
  have h1 := h.rc.kept E hg (.inr (.inr rfl))
  have hsz := h.rc.fx.2.2.2.1
  refine ⟨by simpa using h1, h.c8, by simp, fun _ k => by simp at k, fun k => ?_, by simp, fun _ k => by simp at k, fun _ => ⟨hown, hf.imp id (fun q g hgv => Nat.le_trans hsz (q g hgv))⟩⟩
  obtain ⟨c, d, o⟩ := h.a10 k
  exact ⟨c, d, o.kept hg (own_apart o.1 (h.p0 rfl) (by decide))⟩
theorem New.set {e : TypeId} {s m : Nat} {u v : Value} {xs : List Value} (h : New w w' B e s u m xs v) {b o : Nat} {y : Value} (hb : v.ownBlock ≠ some b) : New w (w'.setCell ⟨b, o, none⟩ y) B e s u m xs v := ⟨ownsRow_setCell_other h.1 hb y, h.2⟩
theorem arr_ne (h : RC w B qa n cap qs os at_ k0 uA uB eA eB w') {e : TypeId} {s m : Nat} {v : Value} {xs : List Value} (hv : w'.ownsRow B e s v m xs) (he : e ≠ 59) : v.ownBlock ≠ some qa := fun k => by
  have := own_apart hv h.arr he; rw [k] at this; simp [Value.ownBlock] at this
theorem WI.st20 (E : RE w B qa n cap qs os at_ k0 zs nsB uA uB) (h : WI w B qa n cap qs os at_ k0 zs nsB uA uB x nx b8 b9 true b16 true false false z8 z9 z10 z16 z17 w') :
    WI w B qa n cap qs os at_ k0 zs nsB uA uB x nx b8 b9 true b16 true true false z8 z9 z10 z16 z17 (w'.setCell ⟨qa, at_ * 3 + 1, none⟩ z10) := by
  refine ⟨by simpa using h.rc.setA E z10, h.c8, by simp, fun _ k => by simp at k, fun k => ?_, by simp, fun _ k => by simp at k, fun k => (h.p17 k).set (arr_ne h.rc (h.p17 k).1 (by decide))⟩
  obtain ⟨c, d, o⟩ := h.a10 k
  exact ⟨c, d, o.set (arr_ne h.rc o.1 (by decide))⟩
theorem WI.st23 (E : RE w B qa n cap qs os at_ k0 zs nsB uA uB) (h : WI w B qa n cap qs os at_ k0 zs nsB uA uB x nx b8 b9 true b16 true true false z8 z9 z10 z16 z17 w') :
    WI w B qa n cap qs os at_ k0 zs nsB uA uB x nx b8 b9 true b16 true true true z8 z9 z10 z16 z17 (w'.setCell ⟨qa, at_ * 3 + 2, none⟩ z17) := by
  refine ⟨by simpa using h.rc.setB E z17, h.c8, by simp, fun _ k => by simp at k, fun k => ?_, by simp, fun _ k => by simp at k, fun k => (h.p17 k).set (arr_ne h.rc (h.p17 k).1 (by decide))⟩
  obtain ⟨c, d, o⟩ := h.a10 k
  exact ⟨c, d, o.set (arr_ne h.rc o.1 (by decide))⟩
end
end Go.Proofs.YtoiemkifgdnhaaaGreatDoor
namespace Go.Proofs.YtoiemkifgdnhaaaGreatDoor
open Go Go.RowKit
theorem wp_region_inv' {P : Program} {ops : Array Oper} {Q : Exit → Act → World → Prop} {id : Nat} {a : Act} {w : World} (Inv : Act → Array Bool → Act → World → Prop) (hm : P.follows .mixedOrders = true)
    (h0 : Inv a (Array.replicate ops.size false) a w.drew)
    (step : ∀ L a' w i, Inv a L a' w → Closed .any ops L → i ∈ Region.ready .any ops L → wpOp P ops Q i (fun a'' w' => Inv a (L.setIfInBounds i true) a'' w') a' w)
    (done : ∀ L a' w, Inv a L a' w → L.size = ops.size → Region.ready .any ops L = [] → Q .normal a' w) : (Code.region id ops true).wp P Q a w :=
  wp_region_inv (Inv a) hm h0 step done
/-- Nobody can come up: all have come up, if each waits for earlier ones alone. -/
theorem all_up {md : Region.Mode} {ops : Array Oper} {L : Array Bool} (hb : ((List.range ops.size).all fun i => match ops[i]? with | some o => o.after.all (fun e => !Region.binds md e || decide (e.on < i)) | none => true) = true)
    (hr : Region.ready md ops L = []) {i : Nat} (hi : i < ops.size) (hL : i < L.size) : L.getD i false = true := by
  have h := all_listed (md := md) (ops := ops) (L := L) (fun i o ho e he hbe => by
    rw [List.all_eq_true] at hb
    have hlt := (Array.getElem?_eq_some_iff.1 ho).1
    have := hb i (by simpa using hlt)
    rw [ho] at this
    simp only [Array.all_eq_true_iff_forall_mem] at this
    have := this e he
    simpa [hbe] using this) hr i hi
  simpa [Array.getD, hL] using h
/-- The statement's slots. -/
def put22 (a : Act) (z : Nat → Value) : Act := (((((((((((((((((((((a.put (some 67) (z 0)).put (some 68) (z 1)).put (some 69) (z 2)).put (some 70) (z 3)).put (some 71) (z 4)).put (some 72) (z 5)).put (some 73) (z 6)).put (some 74) (z 7)).put (some 75) (z 8)).put (some 76) (z 9)).put (some 77) (z 10)).put (some 78) (z 11)).put (some 79) (z 12)).put (some 80) (z 13)).put (some 81) (z 14)).put (some 82) (z 15)).put (some 83) (z 16)).put (some 84) (z 17)).put (some 85) (z 18)).put (some 86) (z 19)).put (some 87) (z 21)).put (some 88) (z 22)
theorem put_self (a : Act) (i : Nat) : a.put (some i) (a.tmps.getD i undef) = a := by
  obtain ⟨t, d⟩ := a
  show (⟨t.setIfInBounds i (t.getD i undef), d⟩ : Act) = ⟨t, d⟩
  congr 1
  apply Array.ext_getElem?
  intro j
  rw [Array.getElem?_setIfInBounds]
  by_cases h : i = j
  · subst h
    rw [if_pos rfl]
    by_cases hi : i < t.size
    · simp [Array.getD, hi]
    · simp [hi]
  · rw [if_neg h]
theorem put22_self (a : Act) : put22 a (fun k => a.tmps.getD (if k < 20 then 67 + k else 66 + k) undef) = a := by
  simp only [put22, Nat.reduceAdd, Nat.reduceLT, ↓reduceIte, put_self]
def upz (z : Nat → Value) (i : Nat) (v : Value) : Nat → Value := fun k => if k = i then v else z k
/-- What the quiet operations yield. -/
def pvT (qa at_ gb x : Nat) (c1 : Option Addr) (d1 : Nat) (uA uB : Value) (nx : Int) : Nat → Option Value
  | 0 | 1 | 2 | 3 | 11 | 12 | 18 | 21 => some (.pointer (some ⟨qa, at_ * 3, none⟩))
  | 4 | 19 => some (.pointer (some ⟨qa, at_ * 3 + 1, none⟩))
  | 13 | 22 => some (.pointer (some ⟨qa, at_ * 3 + 2, none⟩))
  | 5 => some uA
  | 14 => some uB
  | 6 => some (.pointer (some ⟨gb, 0, none⟩))
  | 7 => some (va x c1 d1)
  | 15 => some (.int .i64 nx)
  | _ => none
theorem pv_step {T : Nat → Option Value} {L : Array Bool} {z : Nat → Value} {i : Nat} {V : Value} (h : ∀ k v, T k = some v → L.getD k false = true → z k = v) (hi : T i = none ∨ T i = some V) :
    ∀ k v, T k = some v → (L.setIfInBounds i true).getD k false = true → upz z i V k = v := by
  intro k v hk hl
  unfold upz
  rw [getD_or] at hl
  by_cases hki : k = i
  · subst hki
    rw [if_pos rfl]
    rcases hi with hi | hi
    · rw [hi] at hk; cases hk
    · rw [hi] at hk; cases hk; rfl
  · rw [if_neg hki]
    rcases hl with hl | ⟨h2, _⟩
    · exact h k v hk hl
    · exact absurd h2 hki
theorem fl_ne {L : Array Bool} {i k : Nat} (h : k ≠ i) : (L.setIfInBounds i true).getD k false = L.getD k false := by
  rw [Bool.eq_iff_iff, getD_or]
  exact ⟨fun h2 => h2.elim id fun h3 => absurd h3.1 h, .inl⟩
theorem fl_eq {L : Array Bool} {i : Nat} (h : L.getD i true = false) : (L.setIfInBounds i true).getD i false = true := by
  rw [getD_or]
  by_cases hi : i < L.size
  · exact .inr ⟨rfl, hi⟩
  · simp [Array.getD, hi] at h
theorem fl_no {L : Array Bool} {i : Nat} (h : L.getD i true = false) : L.getD i false = false := by
  by_cases hi : i < L.size
  · simp [Array.getD, hi] at h ⊢; exact h
  · simp [Array.getD, hi] at h
theorem not_yet {md : Region.Mode} {ops : Array Oper} {L : Array Bool} (hc : Closed md ops L) (j i : Nat) {o : Oper} (ho : ops[j]? = some o) (e : Edge) (he : e ∈ o.after) (hb : Region.binds md e = true) (hi : e.on = i) (h : L.getD i true = false) : L.getD j false = false := by
  cases hj : L.getD j false with
  | false => rfl
  | true =>
    have h1 := hc j o ho hj e he hb
    rw [hi, fl_no h] at h1; cases h1
section
variable {w : World} {B qa n cap at_ k0 : Nat} {qs : List Ask} {os : List (Nat × Value × Value)} {zs : List (Nat × Option Addr × Nat)} {nsB : List Int} {uA uB eA eB : Value} {w' : World}
theorem RC.cellA (E : RE w B qa n cap qs os at_ k0 zs nsB uA uB) (h : RC w B qa n cap qs os at_ k0 uA uB eA eB w') : w'.cell? ⟨qa, at_ * 3 + 1, none⟩ = some eA := by
  have hi := (List.getElem?_eq_some_iff.1 E.ho).1
  have hl := E.h.len; have hn := E.hn
  rw [h.arr.cellAt _ (by omega), flat3_get _ (by omega), List.getElem?_set_self hi]; rfl
theorem RC.cellB (E : RE w B qa n cap qs os at_ k0 zs nsB uA uB) (h : RC w B qa n cap qs os at_ k0 uA uB eA eB w') : w'.cell? ⟨qa, at_ * 3 + 2, none⟩ = some eB := by
  have hi := (List.getElem?_eq_some_iff.1 E.ho).1
  have hl := E.h.len; have hn := E.hn
  rw [h.arr.cellAt _ (by omega), flat3_get _ (by omega), List.getElem?_set_self hi]; rfl
end
theorem cvs_one' (z : Nat × Option Addr × Nat) : ∀ u ∈ cv z, u.oneCell' = true := fun u hu => cvs_one [z] u (by simpa [cvs] using hu)
theorem cvs_snoc (zs : List (Nat × Option Addr × Nat)) (z : Nat × Option Addr × Nat) : cvs (zs ++ [z]) = cvs zs ++ cv z := by simp [cvs]
section
variable {P : Program}
theorem wp_app {w : World} {o : Oper} {a : Act} {K : Act → World → Prop} {Q : Exit → Act → World → Prop} (s x : Operand) (t : TypeId)
    (ho : o.op = .call { callee := .builtin .append, args := #[s, x], argTypes := #[t, t] })
    (base : Nat) (e : TypeId) (i : TypeInfo) (z : Value) (size bytes : Nat) (ht : P.underlying t = some (.slice e)) (hi : P.info? e = some i) (hz : i.zero = some z)
    (hsize : i.size = size) (hby : i.bytes = bytes) (hzs : z.cells.size = size) (hsz : 0 < size)
    (v : Value) (n : Nat) (xs : List Value) (hs : a.eval s = v) (hown : w.ownsRow base e size v n xs)
    (ad : Addr) (m c : Nat) (news : List Value) (hx : a.eval x = .slice (some ad) m c) (hl : news.length = m * size) (hnews : ∀ j u, news[j]? = some u → w.cell? (ad.add j) = some u) (h1 : ∀ u ∈ news, u.oneCell' = true)
    (h63 : n + m ≤ maxLen) (hbytes : (n + m) * bytes ≤ 140737488355328) (hbase : base ≤ w.heap.size)
    (h : ∀ v' w', w'.ownsRow base e size v' (n + m) (xs ++ news) → w.grownBy w' v.ownBlock → (v'.ownBlock = v.ownBlock ∨ ∀ g, v'.ownBlock = some g → w.heap.size ≤ g) → K (a.put o.dst v') w') : Oper.wp P o a w K Q := by
  obtain ⟨v', w', hr, h2, h3, _⟩ := run_append_own (P := P) w base t o.type e i z size bytes ht hi hz hsize hby hzs hsz v n xs hown ad m c news hl hnews h1 h63 hbytes hbase
  unfold Oper.wp
  simp [execOp, ho, resolve, invoke, builtin, hs, hx, hr, Result.andThen]
  exact h v' w' h2 h3 (append_fresh w base t o.type e i z size bytes ht hi hz hsize hby hzs hsz v n xs hown ad m c news hl hnews h1 h63 hbytes hr)
end
end Go.Proofs.YtoiemkifgdnhaaaGreatDoor
namespace Go.Proofs.YtoiemkifgdnhaaaGreatDoor
open Go Go.RowKit
/-- The groups of the set at hand, the first jj done. -/
def LSt (w0 w2 w11 wr : World) (q r : Nat) (A : List (List Nat)) (m f : Nat) (v0 : Value) (qs : List Ask) (os : List (Nat × Value × Value)) (j : Nat) (gs : List (Nat × Nat)) (bd jj : Nat) (vj uA uB : Value) (osj : List (Nat × Value × Value)) : Prop :=
  PX w0 wr q r A m vj (qs ++ (j, (gs.take jj).map (·.1), (stepF A m f qs.length (gs.take jj)).1) :: (stepF A m f qs.length (gs.take jj)).2) (os ++ (j, uA, uB) :: osj) ∧
  Fx w2 wr (fun b => b = q ∨ b = r ∨ v0.ownBlock = some b) ∧ (∀ g, vj.ownBlock = some g → v0.ownBlock = some g ∨ w2.heap.size ≤ g) ∧
  (∀ g, uA.ownBlock = some g → w2.heap.size ≤ g ∧ g ≠ bd) ∧ (∀ g, uB.ownBlock = some g → w2.heap.size ≤ g ∧ g ≠ bd) ∧ vj.ownBlock ≠ some bd ∧ wr.heap[bd]? = w11.heap[bd]? ∧ w11.heap.size ≤ wr.heap.size
theorem cell_heap {w w' : World} {b : Nat} (h : w'.heap[b]? = w.heap[b]?) (o : Nat) : w'.cell? ⟨b, o, none⟩ = w.cell? ⟨b, o, none⟩ := World.cell?_of_block h
set_option maxRecDepth 100000 in
set_option maxHeartbeats 1000000 in
theorem ask_step (A : List (List Nat)) (m f s q r : Nat) (v : Value) (qs : List Ask) (os : List (Nat × Value × Value)) (w0 w : World) (hok : Ok A m) (hs : s < 2 ^ A.length) (hP : PX w0 w q r A m v qs os) (hlen : qs.length + 20 * (bitsOf s).length ≤ 1000)
    (hD : ∀ t v w qs os, t < 2 ^ A.length → (bitsOf t).length < (bitsOf s).length → qs.length + 20 * (bitsOf t).length ≤ 1000 → PX w0 w q r A m v qs os → Calls Tryz.prog 37 #[.pointer (some ⟨q, 0, none⟩), .int .u64 t] w (AskPost A m f t q r v qs os w0 w)) :
    Calls Tryz.prog 37 #[.pointer (some ⟨q, 0, none⟩), .int .u64 s] w (AskPost A m (f + 1) s q r v qs os w0 w) := by
  have HP := Lib.hid hP; have HOK := Lib.hid hok; have HS := Lib.hid hs; have HD := Lib.hid hD; have HLEN := Lib.hid hlen
  have hdle := dep_le A m s
  clear hP hok hs hD hlen
  by_cases hd0 : dep A m s = 0
  · have h0 : ((dep A m s : Int) == 0) = true := by simp [hd0]
    have HD0 := Lib.hid hd0; clear hd0
    go_enter Tryz.func37, Tryz.ntmps37
    go_wp2_with (go_at_call 36; refine (depth_call A m q r w0 HOK.out 12 s _ (bits_len s) HS.out HP.out.p).mono ?_; rintro e w1 ⟨rfl, hg1, hm1⟩)
    go_ret
    refine ⟨by rw [if_pos HD0.out]; rfl, v, [], ?_, (Fx.of_grown hg1).mono (fun b _ h => .inr (.inl (by simpa using h.symm))), fun g hg => .inl hg⟩
    rw [planF_zero _ _ _ _ _ HD0.out, List.append_nil, List.append_nil]
    exact HP.out.mapped hg1 hm1
  · have h0 : ((dep A m s : Int) == 0) = false := by simp [hd0]
    have HI := Lib.hid (inp_spec hd0)
    have HD0 := Lib.hid hd0; clear hd0
    go_enter Tryz.func37, Tryz.ntmps37
    go_wp2_with (go_at_call 36; refine (depth_call A m q r w0 HOK.out 12 s _ (bits_len s) HS.out HP.out.p).mono ?_; rintro e w1 ⟨rfl, hg1, hm1⟩)
    have HP1 := Lib.hid (HP.out.mapped hg1 hm1)
    have HG1 := Lib.hid hg1
    clear hg1 hm1
    go_loopw [6] (fun i wr => ∃ j : Nat, j ≤ inp A m s ∧ i = .int .i64 j ∧ w1.grownBy wr (some r) ∧ MemOk wr r A m) (fun i _ => inp A m s - (intOf i).toNat)
    case atStart => exact ⟨0, by omega, rfl, World.grownBy.refl _ _, HP1.out.p.mem⟩
    case round =>
      obtain ⟨j, hj, rfl, hg, hm⟩ := hrel
      have HP2 := Lib.hid (HP1.out.mapped hg hm)
      have HG := Lib.hid hg
      have hm10 := HOK.out.m10
      have hjm : j < m := by have := HI.out.1; omega
      clear hg hm
      by_cases hlt : j < inp A m s
      · have hne : ((aft A m j s : Int) != dep A m s) = true := by
          have := HI.out.2.2.1 j hlt; simp; omega
        have hinp : inp A m s < m := HI.out.1
        go_wp2_with (go_at_call 64; refine (after_all A m q r w0 HOK.out j s _ hjm HS.out HP2.out.p).mono ?_; rintro e w2 ⟨rfl, hg2, hm2⟩)
        go_roundw
        case rel => exact ⟨j + 1, by omega, by go_num, grown_trans HG.out hg2, hm2⟩
        case measure => simp [intOf]; omega
      · have hje : j = inp A m s := by omega
        have hne : ((aft A m j s : Int) != dep A m s) = false := by
          rw [hje]; have := HI.out.2.1; simp; omega
        obtain ⟨vcap, va0, hv⟩ : ∃ cap ao, v = .slice ao qs.length cap := by
          rcases own_cases HP.out.lie.own with ⟨h1, h2⟩ | ⟨g, cap, h1, _⟩
          · exact ⟨0, none, by rw [h1, h2]⟩
          · exact ⟨cap, _, h1⟩
        subst hv
        have HJE := Lib.hid hje
        obtain ⟨i0, hi, hz0, hz1, hz2⟩ := info_parts info_ask
        have Hi := Lib.hid hi; have Hz0 := Lib.hid hz0; have Hz1 := Lib.hid hz1; have Hz2 := Lib.hid hz2
        have hql : qs.length ≤ 1000 := by have := HLEN.out; omega
        clear hje hi hz0 hz1 hz2
        go_wp2_with (first | (go_at_call 64; refine (after_all A m q r w0 HOK.out j s _ hjm HS.out HP2.out.p).mono ?_; rintro e w2 ⟨rfl, hg2, hm2⟩; have hP3 := HP2.out.mapped hg2 hm2; have k0 := hP3.c2; have k1 := hP3.fz; have k2 := hP3.p.lt; have HP3 := Lib.hid hP3; clear hP3) | (at_builtin; go_loud (refine wpList_app rfl (.tmp 37) (.tmp 40) 27 rfl (q + 1) 59 i0 _ 3 56 und_asks Hi.out Hz0.out Hz1.out Hz2.out rfl (by decide) _ _ _ rfl (HP3.out.lie.own.alloc _) ⟨w2.heap.size, 0, none⟩ 1 1 [.int .i64 j, .slice none 0 0, .slice none 0 0] rfl rfl (One.cells (heap_alloc_new w2 _)) (by intro u hu; simp at hu; rcases hu with rfl | rfl | rfl <;> rfl) (by unfold maxLen; omega) (by omega) (by simp; omega) ?_; intro v' w9 hown hgr hfr; obtain ⟨g9, k9, rfl⟩ := own_shape hown (by omega); have hnq : some q ≠ Value.ownBlock (.slice va0 qs.length vcap) := (fun e => Nat.not_succ_le_self q (HP3.out.lie.own.lt q e.symm).1); have e2 : w9.cell? ⟨q, 2, none⟩ = some (.slice va0 qs.length vcap) := World.grownBy.cell hgr ((olds (below1 w2 _) q 2 k2).trans k0) hnq; have f2 : w9.frozen? ⟨q, 2, none⟩ = false := (World.frozen?_of_block (hgr.block q (by simp; omega) hnq)).trans ((oldf (below1 w2 _) q 2 k2).trans (k1 2)); have g2 : q < w9.heap.size := Nat.lt_of_lt_of_le (by simp; omega) hgr.size; have HOWN := Lib.hid hown; have HGR := Lib.hid hgr; have HFR := Lib.hid hfr; clear hown hgr hfr)))
        have hX : Fx w2 (w9.setCell ⟨q, 2, none⟩ (.slice (some ⟨g9, 0, none⟩) (qs.length + 1) k9)) (fun b => b = q ∨ Value.ownBlock (.slice va0 qs.length vcap) = some b) :=
          ((Fx.of_below _ (below1 w2 _)).trans (Fx.of_grown HGR.out) (fun x _ hx => .inr hx)).trans Fx.set (fun x _ hx => .inl hx)
        have hfrv : ∀ g, Value.ownBlock (.slice (some ⟨g9, 0, none⟩) (qs.length + 1) k9) = some g → Value.ownBlock (.slice va0 qs.length vcap) = some g ∨ w2.heap.size ≤ g := by
          intro g hg
          rcases HFR.out with h | h
          · exact .inl (Eq.trans (Eq.symm h) hg)
          · have := h g hg; simp at this; exact .inr (by omega)
        obtain ⟨l3, hl3, _⟩ := HP3.out.p.mem
        have hqr : q ≠ r := no_map k0 hl3
        have hold : ∀ o, o ≠ 2 → (w9.setCell ⟨q, 2, none⟩ (.slice (some ⟨g9, 0, none⟩) (qs.length + 1) k9)).cell? ⟨q, o, none⟩ = w2.cell? ⟨q, o, none⟩ := by
          intro o ho
          rw [cset_off (by omega), World.cell?_of_block (w := w2.alloc _) (HGR.out.block q (by simp; omega) hnq)]
          exact olds (below1 w2 _) q o k2
        have hfz : ∀ o, (w9.setCell ⟨q, 2, none⟩ (.slice (some ⟨g9, 0, none⟩) (qs.length + 1) k9)).frozen? ⟨q, o, none⟩ = false := by
          intro o
          rw [World.frozen?_setCell, World.frozen?_of_block (w := w2.alloc _) (HGR.out.block q (by simp; omega) hnq)]
          exact (oldf (below1 w2 _) q o k2).trans (k1 o)
        have hrn : ¬ (r = q ∨ Value.ownBlock (.slice va0 qs.length vcap) = some r) := by
          rintro (h | h)
          · exact hqr h.symm
          · have := own_no_map HP3.out.lie.own hl3
            rw [h] at this; simp at this
        have hbase : ∀ b, (b = q ∨ Value.ownBlock (.slice va0 qs.length vcap) = some b) → w0.heap.size ≤ b := by
          rintro b (h | h)
          · rw [h]; exact HP3.out.p.hq
          · have h1 := (HP3.out.lie.own.lt b h).1; have h2 := HP3.out.p.hq; omega
        have hPX : PX w0 (w9.setCell ⟨q, 2, none⟩ (.slice (some ⟨g9, 0, none⟩) (qs.length + 1) k9)) q r A m (.slice (some ⟨g9, 0, none⟩) (qs.length + 1) k9) (qs ++ [(j, [], [])]) (os ++ [(j, .slice none 0 0, .slice none 0 0)]) :=
          HP3.out.of hX hbase hrn hold hfz (cset_same e2) ((HP3.out.lie.below (below1 w2 _)).push HOWN.out HGR.out).setq
        have HPX := Lib.hid hPX
        have HFX := Lib.hid hX
        have HFV := Lib.hid hfrv
        obtain ⟨W, hW⟩ : ∃ W, W = w9.setCell ⟨q, 2, none⟩ (.slice (some ⟨g9, 0, none⟩) (qs.length + 1) k9) := ⟨_, rfl⟩
        rw [← hW] at hPX hX
        rw [← hW]
        have HPX := Lib.hid hPX; have HFX := Lib.hid hX; have HQR := Lib.hid hqr
        obtain ⟨pa, pc, pe, pv⟩ := hPX.p.a
        clear hPX hX hfrv hl3 hold hfz hrn hbase e2 f2 g2 k0 k1 k2 hW
        have hinp : inp A m s < m := HI.out.1
        refine (divide_call _ A q j m s pa pc HOK.out hjm HS.out HPX.out.p.lt pe (pv.mono HPX.out.p.b) (HPX.out.p.g.mono HPX.out.p.b) (HPX.out.p.gt.mono HPX.out.p.b)).mono ?_
        rintro e w11 ⟨bd, cd, rfl, hgr, hb1, hbd⟩
        have hgl := hgr.2.1
        have HGRP := Lib.hid hgr; have HB11 := Lib.hid hb1; have HBD := Lib.hid hbd
        generalize hgs : divS A j s = gs at *
        have HGS := Lib.hid hgs
        clear hgr hb1 hbd hgs
        go_wp2_with fail
        go_loopw [10, 11, 12, 52] (fun _ _ _ i wr => ∃ (jj : Nat) (vj uA uB : Value) (osj : List (Nat × Value × Value)), jj ≤ gs.length ∧ i = .int .i64 jj ∧ LSt w0 w2 w11 wr q r A m f (.slice va0 qs.length vcap) qs os j gs bd jj vj uA uB osj) (fun _ _ _ i _ => gs.length - (intOf i).toNat)
        case atStart =>
          refine ⟨0, .slice (some ⟨g9, 0, none⟩) (qs.length + 1) k9, .slice none 0 0, .slice none 0 0, [], by omega, rfl, HPX.out.below HB11.out, ?_, HFV.out, by simp [Value.ownBlock], by simp [Value.ownBlock], ?_, rfl, Nat.le_refl _⟩
          · exact HFX.out.trans (Fx.of_below (fun _ => False) HB11.out) (fun _ _ h => h.elim) |>.mono (fun b _ h => h.elim .inl (fun h => .inr (.inr h)))
          · intro e
            have := (HPX.out.lie.own.lt _ e).2
            have := HBD.out; omega
        case round =>
          obtain ⟨jj, vj, uA, uB, osj, hjj, rfl, hL⟩ := hrel
          have HL := Lib.hid hL
          by_cases hlt : jj < gs.length
          · have q1 : (jj:Int) < gs.length := by omega
            have q2 : 0 ≤ (jj:Int) := by omega
            obtain ⟨b1, o1, hbo, g1, ⟨c1, d1, p0, p1, p2, p3, p4, p5, p6⟩, p7⟩ := HGRP.out.1.at hlt
            simp only [Option.some.injEq, Addr.mk.injEq, and_true] at hbo
            obtain ⟨rfl, rfl⟩ := hbo
            have hgm : gs.getD jj (0, 0) ∈ gs := by rw [List.getD_eq_getElem?_getD, List.getElem?_eq_getElem hlt]; exact List.getElem_mem _
            obtain ⟨g, hgg⟩ : ∃ g, g = gs.getD jj (0, 0) := ⟨_, rfl⟩
            rw [← hgg] at p0 p1 p2 p4 p7 hgm
            simp only [Nat.zero_add] at p0 p1 p2 p3 p4 p5 p6 p7
            have hh := hL.2.2.2.2.2.2.1
            rw [← cell_heap hh] at p0 p1 p2 p3 p4 p5 p6 p7
            have hcard : (bitsOf g.2).length < (bitsOf s).length := card_lt (HGS.out ▸ hgm) (by rw [HJE.out]; exact HI.out.2.2.2)
            have hset : g.2 < 2 ^ A.length := set_lt HS.out (HGS.out ▸ hgm)
            have HC := Lib.hid hcard; have HSE := Lib.hid hset; have HGG := Lib.hid hgg
            clear hL hgm hgg hcard hset hh
            go_wp2_with fail
            obtain ⟨BX, hBX⟩ : ∃ BX : Obj, BX = .cells #[.int .i64 (kd g.1), .string (st g.1), .int .i64 (dn g.1), .int .i64 0, .int .i64 (nn g.1), .slice c1 0 d1, .slice none 0 0, .int .u64 (g.2 : Nat)] 100 := ⟨_, rfl⟩
            rw [← hBX]
            obtain ⟨qs1, hq1⟩ : ∃ qs1, qs1 = qs ++ (j, (gs.take jj).map (·.1), (stepF A m f qs.length (gs.take jj)).1) :: (stepF A m f qs.length (gs.take jj)).2 := ⟨_, rfl⟩
            have hlq : qs1.length = qs.length + 1 + (stepF A m f qs.length (gs.take jj)).2.length := by rw [hq1]; simp; omega
            have hsl := stepF_le A m f qs.length s j jj (by rw [HGS.out]; exact hjj)
            rw [HGS.out] at hsl
            have hPX2 := HL.out.1
            rw [← hq1] at hPX2
            have hbs := bits_len s
            have HPX2 := Lib.hid hPX2
            have HLQ := Lib.hid hlq; have HQ1 := Lib.hid hq1
            have hbnd : qs1.length + 20 * (bitsOf g.2).length ≤ 1000 := by have := HC.out; have := HLEN.out; omega
            clear hPX2 hq1
            refine (HD.out g.2 vj _ qs1 (os ++ (j, uA, uB) :: osj) HSE.out HC.out hbnd (HPX2.out.below (below1 wr BX))).mono ?_
            rintro e w12 ⟨rfl, vk, osk, hPk, hFk, hfk⟩
            obtain ⟨qs2, hq2⟩ : ∃ qs2, qs2 = qs1 ++ planF A m f g.2 qs1.length := ⟨_, rfl⟩
            rw [← hq2] at hPk
            have hl2 : qs.length < qs2.length := by rw [hq2, List.length_append]; omega
            have HQ2 := Lib.hid hq2
            have hos : os.length = qs.length := HP.out.lie.len
            obtain ⟨qa, ck, rfl⟩ := own_shape hPk.lie.own (by omega)
            have k0 := hPk.c2
            have k1 : (qs.length : Int) < qs2.length := by omega
            have k2 : (0:Int) ≤ qs.length := by omega
            obtain ⟨nx, hnx⟩ : ∃ nx : Int, nx = if dep A m g.2 = 0 then -1 else (qs1.length : Int) := ⟨_, rfl⟩
            rw [← hnx]
            have HNX := Lib.hid hnx; have HPK := Lib.hid hPk; have HFK := Lib.hid hFk; have HFK2 := Lib.hid hfk; have HBX := Lib.hid hBX
            clear hPk hFk hfk hnx p0 p1 p2 p3 p4 p5 p6 p7 hBX hlq hsl hq2
            go_wp2_with fail
            have hgbE : w12.heap[wr.heap.size]? = some BX := by
              have h1 := HFK.out.2.2.2.2 wr.heap.size (by simp) (by
                rintro (h | h | h)
                · have := HPX2.out.p.lt; omega
                · have := HPX2.out.p.mem.lt; omega
                · have := (HPX2.out.lie.own.lt _ h).2; omega)
              rw [h1]; exact heap_alloc_new wr BX
            rw [HBX.out] at hgbE
            have HGB := Lib.hid hgbE
            obtain ⟨os2, hos2⟩ : ∃ os2, os2 = (os ++ (j, uA, uB) :: osj) ++ osk := ⟨_, rfl⟩
            have HOS2 := Lib.hid hos2
            have ho2 : os2[qs.length]? = some (j, uA, uB) := by rw [hos2, ← hos, List.append_assoc, List.getElem?_append_right (Nat.le_refl _)]; simp
            have ha2 : qs2[qs.length]? = some (j, (gs.take jj).map (·.1), (stepF A m f qs.length (gs.take jj)).1) := by rw [HQ2.out, HQ1.out, List.append_assoc, List.getElem?_append_right (Nat.le_refl _)]; simp
            have hlie := HPK.out.lie
            rw [← hos2] at hlie
            obtain ⟨_, ⟨zs, hzs, hrA⟩, hrB⟩ := hlie.inn _ _ _ ho2 ha2
            have hzs : zs.map (·.1) = (gs.take jj).map (·.1) := hzs
            have hrB : w12.ownsRow (q + 1) 3 1 uB (stepF A m f qs.length (gs.take jj)).1.length (ci (stepF A m f qs.length (gs.take jj)).1) := hrB
            have hrA : w12.ownsRow (q + 1) 47 7 uA zs.length (cvs zs) := hrA
            rw [← hzs] at ha2
            obtain ⟨nsB, hns⟩ : ∃ nsB, nsB = (stepF A m f qs.length (gs.take jj)).1 := ⟨_, rfl⟩
            rw [← hns] at ha2 hrB
            have E : RE w12.drew (q + 1) qa qs2.length ck qs2 os2 qs.length j zs nsB uA uB := ⟨hlie.below (Below.refl _ _).drew, rfl, ho2, ha2, hrA.drew, hrB.drew⟩
            have HE := Lib.hid E; have HNS := Lib.hid hns; have HZS := Lib.hid hzs
            clear E hns hzs hrA hrB hlie ha2 ho2 hos2 hgbE
            obtain ⟨iv, hv, hv0, hv1, hv2⟩ := info_parts info_value
            have Hv := Lib.hid hv; have Hv0 := Lib.hid hv0; have Hv1 := Lib.hid hv1; have Hv2 := Lib.hid hv2
            obtain ⟨ii, hn, hn0, hn1, hn2⟩ := info_parts info_int
            have Hn := Lib.hid hn; have Hn0 := Lib.hid hn0; have Hn1 := Lib.hid hn1; have Hn2 := Lib.hid hn2
            clear hv hv0 hv1 hv2 hn hn0 hn1 hn2
            have HNR := Lib.hid (show ¬ RS qa uA uB wr.heap.size by
              have hl3 := HPX2.out.lie
              obtain ⟨_, ⟨_, _, y1⟩, y2⟩ := hl3.inn qs.length (j, uA, uB) (qs1[qs.length]'(by have := HLQ.out; omega)) (by rw [← hos, List.getElem?_append_right (Nat.le_refl _)]; simp) (by simp)
              rintro (h | h | h)
              · rcases HFK2.out qa rfl with h2 | h2
                · have := (hl3.own.lt qa h2).2; omega
                · simp at h2; omega
              · have := (y1.lt _ h).2; omega
              · have := (y2.lt _ h).2; omega)
            have HGL := Lib.hid (show wr.heap.size < w12.drew.heap.size by have := HFK.out.2.2.2.1; simp at this ⊢; omega)
            have HBS := Lib.hid (show q + 1 ≤ w12.drew.heap.size from HPK.out.p.lt)
            have hzl : zs.length ≤ 12 := by have := congrArg List.length HZS.out; simp at this; omega
            have hnl : nsB.length ≤ 12 := by rw [HNS.out, stepF_len]; simp; omega
            refine wp_region_inv' (fun a0 L a w' => ∃ z : Nat → Value, a = put22 a0 z ∧ (∀ k v, pvT qa qs.length wr.heap.size g.1 c1 d1 uA uB nx k = some v → L.getD k false = true → z k = v) ∧ WI w12.drew (q + 1) qa qs2.length ck qs2 os2 qs.length j zs nsB uA uB g.1 nx (L.getD 8 false) (L.getD 9 false) (L.getD 10 false) (L.getD 16 false) (L.getD 17 false) (L.getD 20 false) (L.getD 23 false) (z 8) (z 9) (z 10) (z 16) (z 17) w') (by kernel_rfl) ?_ ?_ ?_
            · exact ⟨_, (put22_self _).symm, fun k v _ hl => by simp [Array.getD] at hl, WI.start HE.out⟩
            · intro L a' w' i hI hcl hi
              obtain ⟨z, rfl, hz, hW⟩ := hI
              obtain ⟨hun, o, ho, hdep⟩ := mem_ready.1 hi
              have hi24 : i < 24 := by simpa using (Array.getElem?_eq_some_iff.1 ho).1
              have hall : i = 0 ∨ i = 1 ∨ i = 2 ∨ i = 3 ∨ i = 4 ∨ i = 5 ∨ i = 6 ∨ i = 7 ∨ i = 8 ∨ i = 9 ∨ i = 10 ∨ i = 11 ∨ i = 12 ∨ i = 13 ∨ i = 14 ∨ i = 15 ∨ i = 16 ∨ i = 17 ∨ i = 18 ∨ i = 19 ∨ i = 20 ∨ i = 21 ∨ i = 22 ∨ i = 23 := by omega
              rcases hall with rfl | rfl | rfl | rfl | rfl | rfl | rfl | rfl | rfl | rfl | rfl | rfl | rfl | rfl | rfl | rfl | rfl | rfl | rfl | rfl | rfl | rfl | rfl | rfl
              · refine YieldsIf.wpOp (S := fun x => x = w') (v := .pointer (some ⟨qa, qs.length * 3, none⟩)) rfl (.inl ⟨by rfl, fun w hw => by subst hw; simp only [put22, Act.put, List.setIfInBounds_toArray, List.set_cons_zero, List.set_cons_succ]; go_simp⟩) rfl ?_
                refine ⟨upz z 0 (.pointer (some ⟨qa, qs.length * 3, none⟩)), ?_, pv_step hz (.inr rfl), ?_⟩
                · simp only [put22, Act.put, List.setIfInBounds_toArray, List.set_cons_zero, List.set_cons_succ]; rfl
                · rw [fl_ne (i := 0) (k := 8) (by decide), fl_ne (i := 0) (k := 9) (by decide), fl_ne (i := 0) (k := 10) (by decide), fl_ne (i := 0) (k := 16) (by decide), fl_ne (i := 0) (k := 17) (by decide), fl_ne (i := 0) (k := 20) (by decide), fl_ne (i := 0) (k := 23) (by decide)]; exact hW
              · refine YieldsIf.wpOp (S := fun x => x = w') (v := .pointer (some ⟨qa, qs.length * 3, none⟩)) rfl (.inl ⟨by rfl, fun w hw => by subst hw; simp only [put22, Act.put, List.setIfInBounds_toArray, List.set_cons_zero, List.set_cons_succ]; go_simp⟩) rfl ?_
                refine ⟨upz z 1 (.pointer (some ⟨qa, qs.length * 3, none⟩)), ?_, pv_step hz (.inr rfl), ?_⟩
                · simp only [put22, Act.put, List.setIfInBounds_toArray, List.set_cons_zero, List.set_cons_succ]; rfl
                · rw [fl_ne (i := 1) (k := 8) (by decide), fl_ne (i := 1) (k := 9) (by decide), fl_ne (i := 1) (k := 10) (by decide), fl_ne (i := 1) (k := 16) (by decide), fl_ne (i := 1) (k := 17) (by decide), fl_ne (i := 1) (k := 20) (by decide), fl_ne (i := 1) (k := 23) (by decide)]; exact hW
              · refine YieldsIf.wpOp (S := fun x => x = w') (v := .pointer (some ⟨qa, qs.length * 3, none⟩)) rfl (.inl ⟨by rfl, fun w hw => by subst hw; simp only [put22, Act.put, List.setIfInBounds_toArray, List.set_cons_zero, List.set_cons_succ]; go_simp⟩) rfl ?_
                refine ⟨upz z 2 (.pointer (some ⟨qa, qs.length * 3, none⟩)), ?_, pv_step hz (.inr rfl), ?_⟩
                · simp only [put22, Act.put, List.setIfInBounds_toArray, List.set_cons_zero, List.set_cons_succ]; rfl
                · rw [fl_ne (i := 2) (k := 8) (by decide), fl_ne (i := 2) (k := 9) (by decide), fl_ne (i := 2) (k := 10) (by decide), fl_ne (i := 2) (k := 16) (by decide), fl_ne (i := 2) (k := 17) (by decide), fl_ne (i := 2) (k := 20) (by decide), fl_ne (i := 2) (k := 23) (by decide)]; exact hW
              · have hd2 := hz 2 _ rfl (by have h1 := Option.some.inj (show some _ = some o from ho); subst h1; exact hdep ⟨2, .data⟩ (by simp) rfl)
                refine YieldsIf.wpOp (S := fun x => x = w') (v := .pointer (some ⟨qa, qs.length * 3, none⟩)) rfl (.inl ⟨by rfl, fun w hw => by subst hw; simp only [put22, Act.put, List.setIfInBounds_toArray, List.set_cons_zero, List.set_cons_succ]; simp only [hd2]; go_simp⟩) rfl ?_
                refine ⟨upz z 3 (.pointer (some ⟨qa, qs.length * 3, none⟩)), ?_, pv_step hz (.inr rfl), ?_⟩
                · simp only [put22, Act.put, List.setIfInBounds_toArray, List.set_cons_zero, List.set_cons_succ]; rfl
                · rw [fl_ne (i := 3) (k := 8) (by decide), fl_ne (i := 3) (k := 9) (by decide), fl_ne (i := 3) (k := 10) (by decide), fl_ne (i := 3) (k := 16) (by decide), fl_ne (i := 3) (k := 17) (by decide), fl_ne (i := 3) (k := 20) (by decide), fl_ne (i := 3) (k := 23) (by decide)]; exact hW
              · have hd3 := hz 3 _ rfl (by have h1 := Option.some.inj (show some _ = some o from ho); subst h1; exact hdep ⟨3, .data⟩ (by simp) rfl)
                refine YieldsIf.wpOp (S := fun x => x = w') (v := .pointer (some ⟨qa, qs.length * 3 + 1, none⟩)) rfl (.inl ⟨by rfl, fun w hw => by subst hw; simp only [put22, Act.put, List.setIfInBounds_toArray, List.set_cons_zero, List.set_cons_succ]; simp only [hd3]; go_simp⟩) rfl ?_
                refine ⟨upz z 4 (.pointer (some ⟨qa, qs.length * 3 + 1, none⟩)), ?_, pv_step hz (.inr rfl), ?_⟩
                · simp only [put22, Act.put, List.setIfInBounds_toArray, List.set_cons_zero, List.set_cons_succ]; rfl
                · rw [fl_ne (i := 4) (k := 8) (by decide), fl_ne (i := 4) (k := 9) (by decide), fl_ne (i := 4) (k := 10) (by decide), fl_ne (i := 4) (k := 16) (by decide), fl_ne (i := 4) (k := 17) (by decide), fl_ne (i := 4) (k := 20) (by decide), fl_ne (i := 4) (k := 23) (by decide)]; exact hW
              · have hd4 := hz 4 _ rfl (by have h1 := Option.some.inj (show some _ = some o from ho); subst h1; exact hdep ⟨4, .data⟩ (by simp) rfl)
                have f20 := not_yet hcl 20 5 rfl ⟨5, .phase⟩ (by simp) rfl rfl hun
                have hcA := hW.rc.cellA HE.out
                simp only [f20, Bool.false_eq_true, ↓reduceIte] at hcA
                refine YieldsIf.wpOp (S := fun x => x = w') (v := uA) rfl (.inl ⟨by rfl, fun w hw => by subst hw; simp only [put22, Act.put, List.setIfInBounds_toArray, List.set_cons_zero, List.set_cons_succ]; simp only [hd4]; go_simp⟩) rfl ?_
                refine ⟨upz z 5 (uA), ?_, pv_step hz (.inr rfl), ?_⟩
                · simp only [put22, Act.put, List.setIfInBounds_toArray, List.set_cons_zero, List.set_cons_succ]; rfl
                · rw [fl_ne (i := 5) (k := 8) (by decide), fl_ne (i := 5) (k := 9) (by decide), fl_ne (i := 5) (k := 10) (by decide), fl_ne (i := 5) (k := 16) (by decide), fl_ne (i := 5) (k := 17) (by decide), fl_ne (i := 5) (k := 20) (by decide), fl_ne (i := 5) (k := 23) (by decide)]; exact hW
              · refine YieldsIf.wpOp (S := fun x => x = w') (v := .pointer (some ⟨wr.heap.size, 0, none⟩)) rfl (.inl ⟨by rfl, fun w hw => by subst hw; simp only [put22, Act.put, List.setIfInBounds_toArray, List.set_cons_zero, List.set_cons_succ]; go_simp⟩) rfl ?_
                refine ⟨upz z 6 (.pointer (some ⟨wr.heap.size, 0, none⟩)), ?_, pv_step hz (.inr rfl), ?_⟩
                · simp only [put22, Act.put, List.setIfInBounds_toArray, List.set_cons_zero, List.set_cons_succ]; rfl
                · rw [fl_ne (i := 6) (k := 8) (by decide), fl_ne (i := 6) (k := 9) (by decide), fl_ne (i := 6) (k := 10) (by decide), fl_ne (i := 6) (k := 16) (by decide), fl_ne (i := 6) (k := 17) (by decide), fl_ne (i := 6) (k := 20) (by decide), fl_ne (i := 6) (k := 23) (by decide)]; exact hW
              · have hd6 := hz 6 _ rfl (by have h1 := Option.some.inj (show some _ = some o from ho); subst h1; exact hdep ⟨6, .data⟩ (by simp) rfl)
                have hgw : w'.heap[wr.heap.size]? = _ := (hW.rc.fx.2.2.2.2 wr.heap.size HGL.out HNR.out).trans HGB.out
                have g0 : w'.cell? ⟨wr.heap.size, 0, none⟩ = some (.int .i64 (kd g.1)) := by simp [World.cell?, hgw]
                have g1 : w'.cell? ⟨wr.heap.size, 1, none⟩ = some (.string (st g.1)) := by simp [World.cell?, hgw]
                have g2 : w'.cell? ⟨wr.heap.size, 2, none⟩ = some (.int .i64 (dn g.1)) := by simp [World.cell?, hgw]
                have g3 : w'.cell? ⟨wr.heap.size, 3, none⟩ = some (.int .i64 0) := by simp [World.cell?, hgw]
                have g4 : w'.cell? ⟨wr.heap.size, 4, none⟩ = some (.int .i64 (nn g.1)) := by simp [World.cell?, hgw]
                have g5 : w'.cell? ⟨wr.heap.size, 5, none⟩ = some (.slice c1 0 d1) := by simp [World.cell?, hgw]
                have g6 : w'.cell? ⟨wr.heap.size, 6, none⟩ = some (.slice none 0 0) := by simp [World.cell?, hgw]
                refine YieldsIf.wpOp (S := fun x => x = w') (v := va g.1 c1 d1) rfl (.inl ⟨by rfl, fun w hw => by subst hw; simp only [put22, Act.put, List.setIfInBounds_toArray, List.set_cons_zero, List.set_cons_succ]; simp only [hd6]; go_simp⟩) rfl ?_
                refine ⟨upz z 7 (va g.1 c1 d1), ?_, pv_step hz (.inr rfl), ?_⟩
                · simp only [put22, Act.put, List.setIfInBounds_toArray, List.set_cons_zero, List.set_cons_succ]; rfl
                · rw [fl_ne (i := 7) (k := 8) (by decide), fl_ne (i := 7) (k := 9) (by decide), fl_ne (i := 7) (k := 10) (by decide), fl_ne (i := 7) (k := 16) (by decide), fl_ne (i := 7) (k := 17) (by decide), fl_ne (i := 7) (k := 20) (by decide), fl_ne (i := 7) (k := 23) (by decide)]; exact hW
              · have hd7 := hz 7 _ rfl (by have h1 := Option.some.inj (show some _ = some o from ho); subst h1; exact hdep ⟨7, .data⟩ (by simp) rfl)
                refine wpOp_step rfl (fun K hK => ?_)
                rw [if_pos (by rfl)]
                simp only [put22, Act.put, List.setIfInBounds_toArray, List.set_cons_zero, List.set_cons_succ]
                simp only [hd7]
                go_simp
                refine (value_copy _ _ _ _).mono ?_
                rintro e w3 ⟨c8, d8, rfl, hb8⟩
                refine hK _ _ ⟨upz z 8 (va g.1 c8 d8), ?_, pv_step hz (.inl rfl), ?_⟩
                · simp only [put22, Act.put, List.setIfInBounds_toArray, List.set_cons_zero, List.set_cons_succ]; simp [upz, hd7]
                · rw [fl_eq hun, fl_ne (i := 8) (k := 9) (by decide), fl_ne (i := 8) (k := 10) (by decide), fl_ne (i := 8) (k := 16) (by decide), fl_ne (i := 8) (k := 17) (by decide), fl_ne (i := 8) (k := 20) (by decide), fl_ne (i := 8) (k := 23) (by decide)]; exact hW.copied HE.out hb8 c8 d8
              · have hl8 : L.getD 8 false = true := (by have h1 := Option.some.inj (show some _ = some o from ho); subst h1; exact hdep ⟨8, .data⟩ (by simp) rfl)
                obtain ⟨c8, d8, hd8⟩ := hW.c8 hl8
                refine wpOp_step rfl (fun K hK => ?_)
                rw [if_pos (by rfl)]
                simp only [put22, Act.put, List.setIfInBounds_toArray, List.set_cons_zero, List.set_cons_succ]
                simp only [hd8]
                go_simp
                refine hK _ _ ⟨upz z 9 (.slice (some ⟨w'.heap.size, 0, none⟩) 1 1), ?_, pv_step hz (.inl rfl), ?_⟩
                · simp only [put22, Act.put, List.setIfInBounds_toArray, List.set_cons_zero, List.set_cons_succ]; simp [upz, hd8]
                · rw [fl_ne (i := 9) (k := 8) (by decide), fl_eq hun, fl_ne (i := 9) (k := 10) (by decide), fl_ne (i := 9) (k := 16) (by decide), fl_ne (i := 9) (k := 17) (by decide), fl_ne (i := 9) (k := 20) (by decide), fl_ne (i := 9) (k := 23) (by decide)]; exact hW.built9 HE.out c8 d8
              · have hd5 := hz 5 _ rfl (by have h1 := Option.some.inj (show some _ = some o from ho); subst h1; exact hdep ⟨5, .data⟩ (by simp) rfl)
                have hl9 : L.getD 9 false = true := (by have h1 := Option.some.inj (show some _ = some o from ho); subst h1; exact hdep ⟨9, .data⟩ (by simp) rfl)
                have f10 := fl_no hun
                have f17 := not_yet hcl 17 10 rfl ⟨10, .chain⟩ (by simp) rfl rfl hun
                have f20 := not_yet hcl 20 10 rfl ⟨10, .phase⟩ (by simp) rfl rfl hun
                have f23 := not_yet hcl 23 10 rfl ⟨10, .phase⟩ (by simp) rfl rfl hun
                rw [hl9, f10, f17, f20, f23] at hW
                obtain ⟨c9, d9, b9, hd9, hb9, hh9⟩ := hW.a9 rfl rfl
                refine wpOp_step rfl (fun K hK => ?_)
                rw [if_pos (by rfl)]
                refine wp_app (.tmp 72) (.tmp 76) 42 rfl (q + 1) 47 iv _ 7 96 und_vals Hv.out Hv0.out Hv1.out Hv2.out rfl (by decide) uA zs.length (cvs zs) (by simp only [put22, Act.put, List.setIfInBounds_toArray, List.set_cons_zero, List.set_cons_succ]; exact hd5) (hW.a0 rfl) ⟨b9, 0, none⟩ 1 1 (cv (g.1, c9, d9)) (by simp only [put22, Act.put, List.setIfInBounds_toArray, List.set_cons_zero, List.set_cons_succ]; exact hd9) rfl (One.cells hh9) (cvs_one' _) (by unfold maxLen; omega) (by omega) (Nat.le_trans HBS.out hW.rc.fx.2.2.2.1) ?_
                intro v' w9 hown hgr hfr
                refine hK _ _ ⟨upz z 10 v', ?_, pv_step hz (.inl rfl), ?_⟩
                · simp only [put22, Act.put, List.setIfInBounds_toArray, List.set_cons_zero, List.set_cons_succ]; rfl
                · rw [fl_ne (i := 10) (k := 8) (by decide), fl_ne (i := 10) (k := 9) (by decide), fl_eq hun, fl_ne (i := 10) (k := 16) (by decide), fl_ne (i := 10) (k := 17) (by decide), fl_ne (i := 10) (k := 20) (by decide), fl_ne (i := 10) (k := 23) (by decide)]; rw [hl9, f17, f20, f23]; exact hW.app10 HE.out (by rw [cvs_snoc]; exact hown) hgr hfr
              · refine YieldsIf.wpOp (S := fun x => x = w') (v := .pointer (some ⟨qa, qs.length * 3, none⟩)) rfl (.inl ⟨by rfl, fun w hw => by subst hw; simp only [put22, Act.put, List.setIfInBounds_toArray, List.set_cons_zero, List.set_cons_succ]; go_simp⟩) rfl ?_
                refine ⟨upz z 11 (.pointer (some ⟨qa, qs.length * 3, none⟩)), ?_, pv_step hz (.inr rfl), ?_⟩
                · simp only [put22, Act.put, List.setIfInBounds_toArray, List.set_cons_zero, List.set_cons_succ]; rfl
                · rw [fl_ne (i := 11) (k := 8) (by decide), fl_ne (i := 11) (k := 9) (by decide), fl_ne (i := 11) (k := 10) (by decide), fl_ne (i := 11) (k := 16) (by decide), fl_ne (i := 11) (k := 17) (by decide), fl_ne (i := 11) (k := 20) (by decide), fl_ne (i := 11) (k := 23) (by decide)]; exact hW
              · have hd11 := hz 11 _ rfl (by have h1 := Option.some.inj (show some _ = some o from ho); subst h1; exact hdep ⟨11, .data⟩ (by simp) rfl)
                refine YieldsIf.wpOp (S := fun x => x = w') (v := .pointer (some ⟨qa, qs.length * 3, none⟩)) rfl (.inl ⟨by rfl, fun w hw => by subst hw; simp only [put22, Act.put, List.setIfInBounds_toArray, List.set_cons_zero, List.set_cons_succ]; simp only [hd11]; go_simp⟩) rfl ?_
                refine ⟨upz z 12 (.pointer (some ⟨qa, qs.length * 3, none⟩)), ?_, pv_step hz (.inr rfl), ?_⟩
                · simp only [put22, Act.put, List.setIfInBounds_toArray, List.set_cons_zero, List.set_cons_succ]; rfl
                · rw [fl_ne (i := 12) (k := 8) (by decide), fl_ne (i := 12) (k := 9) (by decide), fl_ne (i := 12) (k := 10) (by decide), fl_ne (i := 12) (k := 16) (by decide), fl_ne (i := 12) (k := 17) (by decide), fl_ne (i := 12) (k := 20) (by decide), fl_ne (i := 12) (k := 23) (by decide)]; exact hW
              · have hd12 := hz 12 _ rfl (by have h1 := Option.some.inj (show some _ = some o from ho); subst h1; exact hdep ⟨12, .data⟩ (by simp) rfl)
                refine YieldsIf.wpOp (S := fun x => x = w') (v := .pointer (some ⟨qa, qs.length * 3 + 2, none⟩)) rfl (.inl ⟨by rfl, fun w hw => by subst hw; simp only [put22, Act.put, List.setIfInBounds_toArray, List.set_cons_zero, List.set_cons_succ]; simp only [hd12]; go_simp⟩) rfl ?_
                refine ⟨upz z 13 (.pointer (some ⟨qa, qs.length * 3 + 2, none⟩)), ?_, pv_step hz (.inr rfl), ?_⟩
                · simp only [put22, Act.put, List.setIfInBounds_toArray, List.set_cons_zero, List.set_cons_succ]; rfl
                · rw [fl_ne (i := 13) (k := 8) (by decide), fl_ne (i := 13) (k := 9) (by decide), fl_ne (i := 13) (k := 10) (by decide), fl_ne (i := 13) (k := 16) (by decide), fl_ne (i := 13) (k := 17) (by decide), fl_ne (i := 13) (k := 20) (by decide), fl_ne (i := 13) (k := 23) (by decide)]; exact hW
              · have hd13 := hz 13 _ rfl (by have h1 := Option.some.inj (show some _ = some o from ho); subst h1; exact hdep ⟨13, .data⟩ (by simp) rfl)
                have f23 := not_yet hcl 23 14 rfl ⟨14, .phase⟩ (by simp) rfl rfl hun
                have hcB := hW.rc.cellB HE.out
                simp only [f23, Bool.false_eq_true, ↓reduceIte] at hcB
                refine YieldsIf.wpOp (S := fun x => x = w') (v := uB) rfl (.inl ⟨by rfl, fun w hw => by subst hw; simp only [put22, Act.put, List.setIfInBounds_toArray, List.set_cons_zero, List.set_cons_succ]; simp only [hd13]; go_simp⟩) rfl ?_
                refine ⟨upz z 14 (uB), ?_, pv_step hz (.inr rfl), ?_⟩
                · simp only [put22, Act.put, List.setIfInBounds_toArray, List.set_cons_zero, List.set_cons_succ]; rfl
                · rw [fl_ne (i := 14) (k := 8) (by decide), fl_ne (i := 14) (k := 9) (by decide), fl_ne (i := 14) (k := 10) (by decide), fl_ne (i := 14) (k := 16) (by decide), fl_ne (i := 14) (k := 17) (by decide), fl_ne (i := 14) (k := 20) (by decide), fl_ne (i := 14) (k := 23) (by decide)]; exact hW
              · refine YieldsIf.wpOp (S := fun x => x = w') (v := .int .i64 nx) rfl (.inl ⟨by rfl, fun w hw => by subst hw; simp only [put22, Act.put, List.setIfInBounds_toArray, List.set_cons_zero, List.set_cons_succ]; go_simp⟩) rfl ?_
                refine ⟨upz z 15 (.int .i64 nx), ?_, pv_step hz (.inr rfl), ?_⟩
                · simp only [put22, Act.put, List.setIfInBounds_toArray, List.set_cons_zero, List.set_cons_succ]; rfl
                · rw [fl_ne (i := 15) (k := 8) (by decide), fl_ne (i := 15) (k := 9) (by decide), fl_ne (i := 15) (k := 10) (by decide), fl_ne (i := 15) (k := 16) (by decide), fl_ne (i := 15) (k := 17) (by decide), fl_ne (i := 15) (k := 20) (by decide), fl_ne (i := 15) (k := 23) (by decide)]; exact hW
              · have hd15 := hz 15 _ rfl (by have h1 := Option.some.inj (show some _ = some o from ho); subst h1; exact hdep ⟨15, .data⟩ (by simp) rfl)
                refine wpOp_step rfl (fun K hK => ?_)
                rw [if_pos (by rfl)]
                simp only [put22, Act.put, List.setIfInBounds_toArray, List.set_cons_zero, List.set_cons_succ]
                simp only [hd15]
                go_simp
                refine hK _ _ ⟨upz z 16 (.slice (some ⟨w'.heap.size, 0, none⟩) 1 1), ?_, pv_step hz (.inl rfl), ?_⟩
                · simp only [put22, Act.put, List.setIfInBounds_toArray, List.set_cons_zero, List.set_cons_succ]; simp [upz, hd15]
                · rw [fl_ne (i := 16) (k := 8) (by decide), fl_ne (i := 16) (k := 9) (by decide), fl_ne (i := 16) (k := 10) (by decide), fl_eq hun, fl_ne (i := 16) (k := 17) (by decide), fl_ne (i := 16) (k := 20) (by decide), fl_ne (i := 16) (k := 23) (by decide)]; exact hW.built16 HE.out
              · have hd14 := hz 14 _ rfl (by have h1 := Option.some.inj (show some _ = some o from ho); subst h1; exact hdep ⟨14, .data⟩ (by simp) rfl)
                have hl16 : L.getD 16 false = true := (by have h1 := Option.some.inj (show some _ = some o from ho); subst h1; exact hdep ⟨16, .data⟩ (by simp) rfl)
                have hl10 : L.getD 10 false = true := (by have h1 := Option.some.inj (show some _ = some o from ho); subst h1; exact hdep ⟨10, .chain⟩ (by simp) rfl)
                have f17 := fl_no hun
                have f20 := not_yet hcl 20 17 rfl ⟨17, .phase⟩ (by simp) rfl rfl hun
                have f23 := not_yet hcl 23 17 rfl ⟨17, .phase⟩ (by simp) rfl rfl hun
                rw [hl16, hl10, f17, f20, f23] at hW
                obtain ⟨b9, hd16, hb9, hh9⟩ := hW.p16 rfl rfl
                refine wpOp_step rfl (fun K hK => ?_)
                rw [if_pos (by rfl)]
                refine wp_app (.tmp 81) (.tmp 83) 26 rfl (q + 1) 3 ii _ 1 8 und_ints Hn.out Hn0.out Hn1.out Hn2.out rfl (by decide) uB nsB.length (ci nsB) (by simp only [put22, Act.put, List.setIfInBounds_toArray, List.set_cons_zero, List.set_cons_succ]; exact hd14) (hW.p0 rfl) ⟨b9, 0, none⟩ 1 1 [.int .i64 nx] (by simp only [put22, Act.put, List.setIfInBounds_toArray, List.set_cons_zero, List.set_cons_succ]; exact hd16) rfl (One.cells hh9) (by intro u hu; simp at hu; subst hu; rfl) (by unfold maxLen; omega) (by omega) (Nat.le_trans HBS.out hW.rc.fx.2.2.2.1) ?_
                intro v' w9 hown hgr hfr
                refine hK _ _ ⟨upz z 17 v', ?_, pv_step hz (.inl rfl), ?_⟩
                · simp only [put22, Act.put, List.setIfInBounds_toArray, List.set_cons_zero, List.set_cons_succ]; rfl
                · rw [fl_ne (i := 17) (k := 8) (by decide), fl_ne (i := 17) (k := 9) (by decide), fl_ne (i := 17) (k := 10) (by decide), fl_ne (i := 17) (k := 16) (by decide), fl_eq hun, fl_ne (i := 17) (k := 20) (by decide), fl_ne (i := 17) (k := 23) (by decide)]; rw [hl16, hl10, f20, f23]; exact hW.app17 HE.out (v := v') (by simpa [ci] using hown) hgr hfr
              · have hd0 := hz 0 _ rfl (by have h1 := Option.some.inj (show some _ = some o from ho); subst h1; exact hdep ⟨0, .data⟩ (by simp) rfl)
                refine YieldsIf.wpOp (S := fun x => x = w') (v := .pointer (some ⟨qa, qs.length * 3, none⟩)) rfl (.inl ⟨by rfl, fun w hw => by subst hw; simp only [put22, Act.put, List.setIfInBounds_toArray, List.set_cons_zero, List.set_cons_succ]; simp only [hd0]; go_simp⟩) rfl ?_
                refine ⟨upz z 18 (.pointer (some ⟨qa, qs.length * 3, none⟩)), ?_, pv_step hz (.inr rfl), ?_⟩
                · simp only [put22, Act.put, List.setIfInBounds_toArray, List.set_cons_zero, List.set_cons_succ]; rfl
                · rw [fl_ne (i := 18) (k := 8) (by decide), fl_ne (i := 18) (k := 9) (by decide), fl_ne (i := 18) (k := 10) (by decide), fl_ne (i := 18) (k := 16) (by decide), fl_ne (i := 18) (k := 17) (by decide), fl_ne (i := 18) (k := 20) (by decide), fl_ne (i := 18) (k := 23) (by decide)]; exact hW
              · have hd18 := hz 18 _ rfl (by have h1 := Option.some.inj (show some _ = some o from ho); subst h1; exact hdep ⟨18, .data⟩ (by simp) rfl)
                refine YieldsIf.wpOp (S := fun x => x = w') (v := .pointer (some ⟨qa, qs.length * 3 + 1, none⟩)) rfl (.inl ⟨by rfl, fun w hw => by subst hw; simp only [put22, Act.put, List.setIfInBounds_toArray, List.set_cons_zero, List.set_cons_succ]; simp only [hd18]; go_simp⟩) rfl ?_
                refine ⟨upz z 19 (.pointer (some ⟨qa, qs.length * 3 + 1, none⟩)), ?_, pv_step hz (.inr rfl), ?_⟩
                · simp only [put22, Act.put, List.setIfInBounds_toArray, List.set_cons_zero, List.set_cons_succ]; rfl
                · rw [fl_ne (i := 19) (k := 8) (by decide), fl_ne (i := 19) (k := 9) (by decide), fl_ne (i := 19) (k := 10) (by decide), fl_ne (i := 19) (k := 16) (by decide), fl_ne (i := 19) (k := 17) (by decide), fl_ne (i := 19) (k := 20) (by decide), fl_ne (i := 19) (k := 23) (by decide)]; exact hW
              · have hd19 := hz 19 _ rfl (by have h1 := Option.some.inj (show some _ = some o from ho); subst h1; exact hdep ⟨19, .data⟩ (by simp) rfl)
                have hl10 : L.getD 10 false = true := (by have h1 := Option.some.inj (show some _ = some o from ho); subst h1; exact hdep ⟨10, .data⟩ (by simp) rfl)
                have hl17 : L.getD 17 false = true := (by have h1 := Option.some.inj (show some _ = some o from ho); subst h1; exact hdep ⟨17, .chain⟩ (by simp) rfl)
                have f20 := fl_no hun
                have f23 := not_yet hcl 23 20 rfl ⟨20, .chain⟩ (by simp) rfl rfl hun
                rw [hl10, hl17, f20, f23] at hW
                obtain ⟨c9, d9, hn10⟩ := hW.a10 rfl
                obtain ⟨gA, kA, hd10⟩ := own_shape hn10.1 (by omega)
                have hcA := hW.rc.cellA HE.out
                have hfA := hW.rc.arr.frozenAt (qs.length * 3 + 1)
                have hsA : qa < w'.heap.size := (hW.rc.arr.lt qa rfl).2
                refine wpOp_step rfl (fun K hK => ?_)
                rw [if_pos (by rfl)]
                simp only [put22, Act.put, List.setIfInBounds_toArray, List.set_cons_zero, List.set_cons_succ]
                simp only [hd19, hd10]
                go_simp
                refine hK _ _ ⟨z, ?_, fun k v hk hl => ?_, ?_⟩
                · simp only [put22, Act.put, List.setIfInBounds_toArray, List.set_cons_zero, List.set_cons_succ]; simp only [hd19, hd10]
                · by_cases hk2 : k = 20
                  · subst hk2; cases hk
                  · rw [fl_ne hk2] at hl; exact hz k v hk hl
                · rw [fl_ne (i := 20) (k := 8) (by decide), fl_ne (i := 20) (k := 9) (by decide), fl_ne (i := 20) (k := 10) (by decide), fl_ne (i := 20) (k := 16) (by decide), fl_ne (i := 20) (k := 17) (by decide), fl_eq hun, fl_ne (i := 20) (k := 23) (by decide)]; rw [hl10, hl17, f23]; rw [← hd10]; exact hW.st20 HE.out
              · have hd1 := hz 1 _ rfl (by have h1 := Option.some.inj (show some _ = some o from ho); subst h1; exact hdep ⟨1, .data⟩ (by simp) rfl)
                refine YieldsIf.wpOp (S := fun x => x = w') (v := .pointer (some ⟨qa, qs.length * 3, none⟩)) rfl (.inl ⟨by rfl, fun w hw => by subst hw; simp only [put22, Act.put, List.setIfInBounds_toArray, List.set_cons_zero, List.set_cons_succ]; simp only [hd1]; go_simp⟩) rfl ?_
                refine ⟨upz z 21 (.pointer (some ⟨qa, qs.length * 3, none⟩)), ?_, pv_step hz (.inr rfl), ?_⟩
                · simp only [put22, Act.put, List.setIfInBounds_toArray, List.set_cons_zero, List.set_cons_succ]; rfl
                · rw [fl_ne (i := 21) (k := 8) (by decide), fl_ne (i := 21) (k := 9) (by decide), fl_ne (i := 21) (k := 10) (by decide), fl_ne (i := 21) (k := 16) (by decide), fl_ne (i := 21) (k := 17) (by decide), fl_ne (i := 21) (k := 20) (by decide), fl_ne (i := 21) (k := 23) (by decide)]; exact hW
              · have hd21 := hz 21 _ rfl (by have h1 := Option.some.inj (show some _ = some o from ho); subst h1; exact hdep ⟨21, .data⟩ (by simp) rfl)
                refine YieldsIf.wpOp (S := fun x => x = w') (v := .pointer (some ⟨qa, qs.length * 3 + 2, none⟩)) rfl (.inl ⟨by rfl, fun w hw => by subst hw; simp only [put22, Act.put, List.setIfInBounds_toArray, List.set_cons_zero, List.set_cons_succ]; simp only [hd21]; go_simp⟩) rfl ?_
                refine ⟨upz z 22 (.pointer (some ⟨qa, qs.length * 3 + 2, none⟩)), ?_, pv_step hz (.inr rfl), ?_⟩
                · simp only [put22, Act.put, List.setIfInBounds_toArray, List.set_cons_zero, List.set_cons_succ]; rfl
                · rw [fl_ne (i := 22) (k := 8) (by decide), fl_ne (i := 22) (k := 9) (by decide), fl_ne (i := 22) (k := 10) (by decide), fl_ne (i := 22) (k := 16) (by decide), fl_ne (i := 22) (k := 17) (by decide), fl_ne (i := 22) (k := 20) (by decide), fl_ne (i := 22) (k := 23) (by decide)]; exact hW
              · have hd22 := hz 22 _ rfl (by have h1 := Option.some.inj (show some _ = some o from ho); subst h1; exact hdep ⟨22, .data⟩ (by simp) rfl)
                have hl10 : L.getD 10 false = true := (by have h1 := Option.some.inj (show some _ = some o from ho); subst h1; exact hdep ⟨10, .phase⟩ (by simp) rfl)
                have hl17 : L.getD 17 false = true := (by have h1 := Option.some.inj (show some _ = some o from ho); subst h1; exact hdep ⟨17, .data⟩ (by simp) rfl)
                have hl20 : L.getD 20 false = true := (by have h1 := Option.some.inj (show some _ = some o from ho); subst h1; exact hdep ⟨20, .chain⟩ (by simp) rfl)
                have f23 := fl_no hun
                rw [hl10, hl17, hl20, f23] at hW
                have hn17 := hW.p17 rfl
                obtain ⟨gB, kB, hd17⟩ := own_shape hn17.1 (by omega)
                have hcB := hW.rc.cellB HE.out
                have hfB := hW.rc.arr.frozenAt (qs.length * 3 + 2)
                have hsB : qa < w'.heap.size := (hW.rc.arr.lt qa rfl).2
                refine wpOp_step rfl (fun K hK => ?_)
                rw [if_pos (by rfl)]
                simp only [put22, Act.put, List.setIfInBounds_toArray, List.set_cons_zero, List.set_cons_succ]
                simp only [hd22, hd17]
                go_simp
                refine hK _ _ ⟨z, ?_, fun k v hk hl => ?_, ?_⟩
                · simp only [put22, Act.put, List.setIfInBounds_toArray, List.set_cons_zero, List.set_cons_succ]; simp only [hd22, hd17]
                · by_cases hk2 : k = 23
                  · subst hk2; cases hk
                  · rw [fl_ne hk2] at hl; exact hz k v hk hl
                · rw [fl_ne (i := 23) (k := 8) (by decide), fl_ne (i := 23) (k := 9) (by decide), fl_ne (i := 23) (k := 10) (by decide), fl_ne (i := 23) (k := 16) (by decide), fl_ne (i := 23) (k := 17) (by decide), fl_ne (i := 23) (k := 20) (by decide), fl_eq hun]; rw [hl10, hl17, hl20]; rw [← hd17]; exact hW.st23 HE.out
            · intro L a' w' hI hsz hr
              obtain ⟨z, rfl, hz, hW⟩ := hI
              have hup := fun (i : Nat) (hi : i < 24) => all_up (md := .any) (L := L) (i := i) (by kernel_rfl) hr hi (by rw [hsz]; exact hi)
              rw [hup 8 (by omega), hup 9 (by omega), hup 10 (by omega), hup 16 (by omega), hup 17 (by omega), hup 20 (by omega), hup 23 (by omega)] at hW
              clear hz hup hr hsz
              have HW := Lib.hid hW
              clear hW
              simp only [put22, Act.put, List.setIfInBounds_toArray, List.set_cons_zero, List.set_cons_succ]
              go_wp2_with fail
              go_roundw
              case rel =>
                obtain ⟨c10, d10, hA⟩ := HW.out.a10 rfl
                have hB := HW.out.p17 rfl
                have hrc := HW.out.rc
                simp only [↓reduceIte] at hrc
                have hdone := hrc.done HE.out hA hB
                have hl := HL.out
                have hst : stepF A m f qs.length (gs.take (jj + 1)) = (nsB ++ [nx], (stepF A m f qs.length (gs.take jj)).2 ++ planF A m f g.2 qs1.length) := by
                  have e1 : gs[jj] = g := by rw [HGG.out, List.getD_eq_getElem?_getD, List.getElem?_eq_getElem hlt]; rfl
                  rw [List.take_succ_eq_append_getElem hlt, stepF_snoc, e1, HNS.out, HNX.out, HLQ.out]
                have htk : (gs.take (jj + 1)).map (·.1) = zs.map (·.1) ++ [g.1] := by
                  have e1 : gs[jj] = g := by rw [HGG.out, List.getD_eq_getElem?_getD, List.getElem?_eq_getElem hlt]; rfl
                  rw [List.take_succ_eq_append_getElem hlt, List.map_append, e1, HZS.out]; rfl
                have hqe : qs2.set qs.length (j, (zs ++ [(g.1, c10, d10)]).map (·.1), nsB ++ [nx]) = qs ++ (j, (gs.take (jj + 1)).map (·.1), (stepF A m f qs.length (gs.take (jj + 1))).1) :: (stepF A m f qs.length (gs.take (jj + 1))).2 := by
                  rw [hst, htk, HQ2.out, HQ1.out, List.append_assoc, List.set_append_right _ _ (Nat.le_refl _), Nat.sub_self, List.cons_append, List.set_cons_zero, ← HQ1.out]
                  simp
                have hoe : os2.set qs.length (j, z 10, z 17) = os ++ (j, z 10, z 17) :: (osj ++ osk) := by
                  rw [HOS2.out, ← hos, List.append_assoc, List.set_append_right _ _ (Nat.le_refl _), Nat.sub_self, List.cons_append, List.set_cons_zero]
                rw [hqe, hoe] at hdone
                have hPd := HPK.out.below (Below.refl _ _).drew
                have hqne : ¬ RS qa uA uB q := by
                  rintro (h | h | h)
                  · have := (HE.out.h.own.lt qa rfl).1; omega
                  · have := (HE.out.rA.lt q h).1; omega
                  · have := (HE.out.rB.lt q h).1; omega
                have hge : ∀ b, RS qa uA uB b → q + 1 ≤ b := by
                  rintro b (h | h | h)
                  · rw [h]; exact (HE.out.h.own.lt qa rfl).1
                  · exact (HE.out.rA.lt b h).1
                  · exact (HE.out.rB.lt b h).1
                obtain ⟨l5, hl5, _⟩ := hPd.p.mem
                have hrne : ¬ RS qa uA uB r := by
                  rintro (h | h | h)
                  · have := own_no_map HE.out.h.own hl5; rw [← h] at this; simp [Value.ownBlock] at this
                  · have := own_no_map HE.out.rA hl5; rw [h] at this; simp at this
                  · have := own_no_map HE.out.rB hl5; rw [h] at this; simp at this
                have hqb := hrc.fx.2.2.2.2 q hPd.p.lt hqne
                have hPX9 := hPd.of hrc.fx (fun b hb => by have := hge b hb; have := hPd.p.hq; omega) hrne (fun o _ => cell_heap hqb o) (fun o => (World.frozen?_of_block (w := w12.drew) hqb).trans (hPd.fz o)) ((cell_heap hqb 2).trans hPd.c2) hdone
                have hsz2 : w2.heap.size ≤ wr.heap.size := hl.2.1.2.2.2.1
                have hqa : ∀ P : Nat → Prop, (∀ g, vj.ownBlock = some g → P g) → (∀ g, wr.heap.size + 1 ≤ g → P g) → P qa := by
                  intro P h1 h2
                  rcases HFK2.out qa rfl with h | h
                  · exact h1 qa h
                  · exact h2 qa (by simpa using h)
                refine ⟨jj + 1, _, z 10, z 17, osj ++ osk, by omega, by go_num, hPX9, ?_, ?_, ?_, ?_, ?_, ?_, ?_⟩
                · refine (((hl.2.1.trans (Fx.of_below (fun _ => False) (below1 wr BX)) (fun _ _ h => h.elim)).trans HFK.out ?_).trans (Fx.of_below (fun _ => False) (Below.refl _ _).drew) (fun _ _ h => h.elim)).trans hrc.fx ?_
                  · rintro x hx (h | h | h)
                    · exact .inl h
                    · exact .inr (.inl h)
                    · rcases hl.2.2.1 x h with h2 | h2
                      · exact .inr (.inr h2)
                      · omega
                  · rintro x hx (h | h | h)
                    · subst h
                      rcases HFK2.out x rfl with h2 | h2
                      · rcases hl.2.2.1 x h2 with h3 | h3
                        · exact .inr (.inr h3)
                        · omega
                      · simp at h2; omega
                    · have := (hl.2.2.2.1 x h).1; omega
                    · have := (hl.2.2.2.2.1 x h).1; omega
                · intro g' hg'
                  obtain rfl : qa = g' := by simpa [Value.ownBlock] using hg'
                  rcases HFK2.out qa rfl with h2 | h2
                  · exact hl.2.2.1 _ h2
                  · simp at h2; right; omega
                · intro g' hg'
                  have z1 : wr.heap.size + 1 ≤ w12.heap.size := by simpa using HFK.out.2.2.2.1
                  have z2 : w11.heap.size ≤ wr.heap.size := hl.2.2.2.2.2.2.2
                  rcases hA.2 with h | h
                  · exact hl.2.2.2.1 g' (by rw [← h]; exact hg')
                  · have z3 : w12.heap.size ≤ g' := h g' hg'
                    exact ⟨by omega, by omega⟩
                · intro g' hg'
                  have z1 : wr.heap.size + 1 ≤ w12.heap.size := by simpa using HFK.out.2.2.2.1
                  have z2 : w11.heap.size ≤ wr.heap.size := hl.2.2.2.2.2.2.2
                  rcases hB.2 with h | h
                  · exact hl.2.2.2.2.1 g' (by rw [← h]; exact hg')
                  · have z3 : w12.heap.size ≤ g' := h g' hg'
                    exact ⟨by omega, by omega⟩
                · intro e
                  have z2 : w11.heap.size ≤ wr.heap.size := hl.2.2.2.2.2.2.2
                  have e2 : qa = bd := by simpa [Value.ownBlock] using e
                  rcases HFK2.out qa rfl with h | h
                  · exact hl.2.2.2.2.2.1 (by rw [← e2]; exact h)
                  · simp at h; omega
                · have z2 : w11.heap.size ≤ wr.heap.size := hl.2.2.2.2.2.2.2
                  have z1 : wr.heap.size + 1 ≤ w12.heap.size := by simpa using HFK.out.2.2.2.1
                  have hb1 : bd ≠ q := by have := HPX.out.p.lt; have := HBD.out; omega
                  have hb2 : bd ≠ r := by have := HPX.out.p.mem.lt; have := HBD.out; omega
                  have hb3 : vj.ownBlock ≠ some bd := hl.2.2.2.2.2.1
                  have hn : ¬ RS qa uA uB bd := by
                    rintro (h | h | h)
                    · rcases HFK2.out qa rfl with h2 | h2
                      · exact hb3 (by rw [h]; exact h2)
                      · simp at h2; omega
                    · exact (hl.2.2.2.1 bd h).2 rfl
                    · exact (hl.2.2.2.2.1 bd h).2 rfl
                  refine (hrc.fx.2.2.2.2 bd (show bd < w12.heap.size by omega) hn).trans ?_
                  refine Eq.trans (HFK.out.2.2.2.2 bd (by simp; omega) (fun h => h.elim hb1 (fun h => h.elim hb2 hb3))) ?_
                  exact ((below1 wr BX).block bd (by omega)).trans hl.2.2.2.2.2.2.1
                · have z1 : wr.heap.size + 1 ≤ w12.heap.size := by simpa using HFK.out.2.2.2.1
                  have z2 : w11.heap.size ≤ wr.heap.size := hl.2.2.2.2.2.2.2
                  have z3 : w12.heap.size ≤ _ := hrc.fx.2.2.2.1
                  omega
              case measure => simp [intOf]; omega
          · clear hL
            go_wp2
            go_ret
            have hp := HL.out.1
            rw [List.take_of_length_le (by omega)] at hp
            refine ⟨by rw [if_neg HD0.out]; rfl, vj, (j, uA, uB) :: osj, ?_, ?_, ?_⟩
            · rw [planF_succ _ _ _ _ _ HD0.out, ← HJE.out, HGS.out]; exact hp
            · exact ((Fx.of_grown (grown_trans (grown_trans HG1.out HG.out) hg2)).mono (fun b _ h => .inr (.inl (by simpa using h.symm)))).trans HL.out.2.1 (fun x _ h => h)
            · exact fun g hg => (HL.out.2.2.1 g hg).imp id (fun h => Nat.le_trans (grown_trans (grown_trans HG1.out HG.out) hg2).size h)
/-- The questions of a set. -/
theorem ask_call (A : List (List Nat)) (m q r : Nat) (w0 : World) (hok : Ok A m) : ∀ (f s : Nat) (v : Value) (qs : List Ask) (os : List (Nat × Value × Value)) (w : World), (bitsOf s).length ≤ f → s < 2 ^ A.length → qs.length + 20 * (bitsOf s).length ≤ 1000 → PX w0 w q r A m v qs os →
    Calls Tryz.prog 37 #[.pointer (some ⟨q, 0, none⟩), .int .u64 s] w (AskPost A m (f + 1) s q r v qs os w0 w) := by
  intro f
  induction f with
  | zero =>
    intro s v qs os w hf hs hl hP
    exact ask_step A m 0 s q r v qs os w0 w hok hs hP hl fun t v w qs os ht hlt _ hP => absurd hlt (by omega)
  | succ f ih =>
    intro s v qs os w hf hs hl hP
    exact ask_step A m (f + 1) s q r v qs os w0 w hok hs hP hl fun t v w qs os ht hlt hl hP => ih t v qs os w (by omega) ht hl hP
end Go.Proofs.YtoiemkifgdnhaaaGreatDoor
