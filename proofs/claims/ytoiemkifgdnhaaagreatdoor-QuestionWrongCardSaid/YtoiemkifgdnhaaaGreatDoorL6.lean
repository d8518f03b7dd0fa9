/- Programs are divided by an input: the plain law, and what the call owns meanwhile. No conditions. -/
import Derived.Test.YtoiemkifgdnhaaaGreatDoorL5
import Derived.Test.YtoiemkifgdnhaaaGreatDoorL4
namespace Go.Proofs.YtoiemkifgdnhaaaGreatDoor
open Go Go.RowKit
theorem own_below {w w' : World} {b : Nat} {e : TypeId} {s : Nat} {v : Value} {n : Nat} {xs : List Value} (h : w.ownsRow b e s v n xs) (hb : Below w.heap.size w w') : w'.ownsRow b e s v n xs := by
  refine ⟨h.1, ?_⟩
  rcases h.2 with h2 | ⟨g, cap, cur, h1, h2, h3, h4⟩
  · exact .inl h2
  · exact .inr ⟨g, cap, cur, h1, h2, by rw [hb.block g (lt_of_block h3)]; exact h3, h4⟩
/-- No two slices of a list own one block. -/
def Apart (os : List Value) : Prop := ∀ (j k : Nat) (u u' : Value) (g : Nat), j ≠ k → os[j]? = some u → os[k]? = some u' → u.ownBlock = some g → u'.ownBlock = some g → False
/-- A call's own list of lists. -/
def Lists (w : World) (B : Nat) (o : Value) (ls : List (List Int)) : Prop :=
  ∃ os : List Value, w.ownsRow B 26 1 o ls.length os ∧ os.length = ls.length ∧
    (∀ (k : Nat) (u : Value) (l : List Int), os[k]? = some u → ls[k]? = some l → w.ownsRow B 3 1 u l.length (ci l)) ∧
    Apart os
theorem Lists.nil (w : World) (B : Nat) : Lists w B (.slice none 0 0) [] := ⟨[], World.ownsRow_nil _ _ _ _, rfl, by simp, fun j k u u' g _ h => by simp at h⟩
theorem Lists.below {w w' : World} {B : Nat} {o : Value} {ls : List (List Int)} (h : Lists w B o ls) (hb : Below w.heap.size w w') : Lists w' B o ls := by
  obtain ⟨os, h1, h2, h3, h4⟩ := h
  exact ⟨os, own_below h1 hb, h2, fun k u l hu hl => own_below (h3 k u l hu hl) hb, h4⟩
/-- It stays while a row of another type is written. -/
theorem Lists.kept {w w' : World} {B B' : Nat} {o v : Value} {ls : List (List Int)} {e : TypeId} {s n : Nat} {xs : List Value} (h : Lists w B o ls) (hv : w.ownsRow B' e s v n xs) (he : e ≠ 26) (he2 : e ≠ 3) (hg : w.grownBy w' v.ownBlock) : Lists w' B o ls := by
  obtain ⟨os, h1, h2, h3, h4⟩ := h
  exact ⟨os, h1.kept hg (own_apart h1 hv (Ne.symm he)), h2, fun k u l hu hl => (h3 k u l hu hl).kept hg (own_apart (h3 k u l hu hl) hv (Ne.symm he2)), h4⟩
def insAt {α : Type} (l : List α) (i : Nat) (x : α) : List α := l.take i ++ (x :: l.drop i)
theorem insAt_get {α : Type} (l : List α) (i : Nat) (x : α) (hi : i ≤ l.length) (k : Nat) : (insAt l i x)[k]? = if k < i then l[k]? else if k = i then some x else l[k - 1]? := by
  unfold insAt
  by_cases h1 : k < i
  · rw [if_pos h1, List.getElem?_append_left (by simp; omega), List.getElem?_take, if_pos h1]
  · rw [if_neg h1, List.getElem?_append_right (by simp; omega)]
    have hl : (l.take i).length = i := by simp; omega
    rw [hl]
    by_cases h2 : k = i
    · subst h2; simp
    · rw [if_neg h2, show k - i = (k - i - 1) + 1 by omega, List.getElem?_cons_succ, List.getElem?_drop]
      congr 1; omega
theorem insAt_len {α : Type} (l : List α) (i : Nat) (x : α) (hi : i ≤ l.length) : (insAt l i x).length = l.length + 1 := by simp [insAt]; omega
/-- A nil list is put in. -/
theorem Lists.insert {w w' : World} {B : Nat} {o s' : Value} {ls : List (List Int)} {os : List Value} (h1 : w.ownsRow B 26 1 o ls.length os) (h2 : os.length = ls.length)
    (h3 : ∀ (k : Nat) (u : Value) (l : List Int), os[k]? = some u → ls[k]? = some l → w.ownsRow B 3 1 u l.length (ci l)) (h4 : Apart os)
    {i : Nat} (hi : i ≤ ls.length) (hs : w'.ownsRow B 26 1 s' (ls.length + 1) (insAt os i (.slice none 0 0))) (hg : w.grownBy w' o.ownBlock) : Lists w' B s' (insAt ls i []) := by
  have hi2 : i ≤ os.length := by omega
  refine ⟨insAt os i (.slice none 0 0), by rw [insAt_len _ _ _ hi]; exact hs, by rw [insAt_len _ _ _ hi, insAt_len _ _ _ hi2, h2], ?_, ?_⟩
  · intro k u l hu hl
    rw [insAt_get _ _ _ hi2] at hu; rw [insAt_get _ _ _ hi] at hl
    have keep : ∀ k, os[k]? = some u → ls[k]? = some l → w'.ownsRow B 3 1 u l.length (ci l) := fun k hu hl => (h3 k u l hu hl).kept hg (own_apart (h3 k u l hu hl) h1 (by decide))
    split at hu
    · rename_i hk; rw [if_pos hk] at hl; exact keep _ hu hl
    · rename_i hk; rw [if_neg hk] at hl
      split at hu
      · rename_i hk2; rw [if_pos hk2] at hl; cases hu; cases hl; exact World.ownsRow_nil _ _ _ _
      · rename_i hk2; rw [if_neg hk2] at hl; exact keep _ hu hl
  · have key : ∀ (j : Nat) (u : Value) (g : Nat), (insAt os i (.slice none 0 0))[j]? = some u → u.ownBlock = some g → ∃ j', os[j']? = some u ∧ (j' = if j < i then j else j - 1) ∧ j ≠ i := by
      intro j u g hu hg
      rw [insAt_get _ _ _ hi2] at hu
      split at hu
      · rename_i hk; exact ⟨j, hu, by rw [if_pos hk], by omega⟩
      · rename_i hk
        split at hu
        · cases hu; simp [Value.ownBlock] at hg
        · exact ⟨j - 1, hu, by rw [if_neg hk], by assumption⟩
    intro j k u u' g hjk hu hu' hg hg'
    obtain ⟨j', a1, a2, a3⟩ := key j u g hu hg
    obtain ⟨k', b1, b2, b3⟩ := key k u' g hu' hg'
    refine h4 j' k' u u' g ?_ a1 b1 hg hg'
    split at a2 <;> split at b2 <;> omega
/-- One element is put behind a list. -/
theorem Lists.append {w w1 : World} {B go n cap : Nat} {ls : List (List Int)} {os : List Value} {at_ : Nat} {u v' : Value} {l : List Int} {x : Int} (h1 : w.ownsRow B 26 1 (.slice (some ⟨go, 0, none⟩) n cap) ls.length os) (h2 : os.length = ls.length)
    (h3 : ∀ (k : Nat) (u : Value) (l : List Int), os[k]? = some u → ls[k]? = some l → w.ownsRow B 3 1 u l.length (ci l)) (h4 : Apart os) (hu : os[at_]? = some u) (hl : ls[at_]? = some l)
    (hv : w1.ownsRow B 3 1 v' (l.length + 1) (ci (l ++ [x]))) (hg : w.grownBy w1 u.ownBlock) (hfresh : v'.ownBlock = u.ownBlock ∨ ∀ g, v'.ownBlock = some g → w.heap.size ≤ g) :
    Lists (w1.setCell ⟨go, at_, none⟩ v') B (.slice (some ⟨go, 0, none⟩) n cap) (ls.set at_ (l ++ [x])) := by
  have hn : n = ls.length := by
    rcases own_cases h1 with ⟨h, _⟩ | ⟨g', cap', h, _⟩
    · simp at h
    · simp only [Value.slice.injEq] at h; exact h.2.1
  subst hn
  have hul := h3 _ _ _ hu hl
  have ho1 := h1.kept hg (own_apart h1 hul (by decide))
  have hst := ho1.stored at_ v'
  have hgo : ∀ g, v'.ownBlock = some g → g ≠ go := by
    intro g hgv e
    subst e
    have := own_apart ho1 hv (by decide)
    simp [Value.ownBlock] at this
    exact this (by rw [← hgv]; rfl)
  refine ⟨os.set at_ v', by rw [List.length_set]; exact hst.1, by simp [h2], ?_, ?_⟩
  · intro k u2 l2 hu2 hl2
    by_cases hk : k = at_
    · subst hk
      have hka : k < os.length := (List.getElem?_eq_some_iff.1 hu).1
      rw [List.getElem?_set_self hka] at hu2
      rw [List.getElem?_set_self (by omega)] at hl2
      cases hu2; cases hl2
      simpa using ownsRow_setCell_other hv (fun h => hgo _ h rfl) v'
    · rw [List.getElem?_set_ne (Ne.symm hk)] at hu2 hl2
      have h5 := h3 _ _ _ hu2 hl2
      have h6 : w1.ownsRow B 3 1 u2 l2.length (ci l2) := h5.kept hg (by
        rcases hq : u2.ownBlock with _ | g
        · exact .inl rfl
        · right; intro h; exact h4 k at_ u2 u g hk hu2 hu hq h.symm)
      refine ownsRow_setCell_other h6 ?_ v'
      intro h
      have := own_apart h1 h5 (by decide)
      simp [Value.ownBlock] at this
      exact this h.symm
  · have fr : ∀ k u2 g, k ≠ at_ → os[k]? = some u2 → u2.ownBlock = some g → v'.ownBlock = some g → False := by
      intro k u2 g hk hu2 hg2 hgv
      rcases hfresh with h | h
      · exact h4 k at_ u2 u g hk hu2 hu hg2 (by rw [← h]; exact hgv)
      · have hlt := h g hgv
        have hka : k < os.length := (List.getElem?_eq_some_iff.1 hu2).1
        have h5 := h3 k u2 (ls[k]'(by omega)) hu2 (by simp)
        have := (h5.lt g hg2).2
        omega
    intro j k u1 u2 g hjk hu1 hu2 hg1 hg2
    have hla : at_ < os.length := (List.getElem?_eq_some_iff.1 hu).1
    by_cases hj : j = at_
    · subst hj
      rw [List.getElem?_set_self hla] at hu1; cases hu1
      rw [List.getElem?_set_ne hjk] at hu2
      exact fr k u2 g (Ne.symm hjk) hu2 hg2 hg1
    · rw [List.getElem?_set_ne (Ne.symm hj)] at hu1
      by_cases hk : k = at_
      · subst hk
        rw [List.getElem?_set_self hla] at hu2; cases hu2
        exact fr j u1 g hj hu1 hg1 hg2
      · rw [List.getElem?_set_ne (Ne.symm hk)] at hu2
        exact h4 j k u1 u2 g hjk hu1 hu2 hg1 hg2
end Go.Proofs.YtoiemkifgdnhaaaGreatDoor
