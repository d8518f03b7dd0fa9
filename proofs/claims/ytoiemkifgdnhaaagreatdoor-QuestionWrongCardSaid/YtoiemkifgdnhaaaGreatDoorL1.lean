/- How slices and small values read, and what stays of it. No conditions.
  What a call owns reads as a slice of ints, of values, of slices. No conditions.
  Lists of values and ints are compared as lists. Conditions: each value is one of the eleven. -/
import Derived.Test.YtoiemkifgdnhaaaGreatDoorChecked
import Derived.WalkKit
import Derived.Lib.Hide
import Derived.Deep.QuietTactic
import Derived.BigQuiet
import Derived.Deep.RegionHeld3
import Derived.Deep.DeepCutAuto
namespace Go.Proofs.YtoiemkifgdnhaaaGreatDoor
open Go Go.RowKit
/-- The eleven values that occur, in their order: their fields. -/
def kd : Nat → Int
  | 0 | 1 => 0 | 2 | 3 => 1 | 4 | 5 | 6 | 7 | 8 => 2 | 9 => 4 | _ => 9
def st : Nat → ByteArray
  | 2 => ⟨#[97]⟩ | 3 => ⟨#[98]⟩ | _ => ⟨#[]⟩
def dn : Nat → Int
  | 4 => 1 | 5 => 2 | 6 => 3 | 7 => 5 | 8 => 7 | _ => 0
def nn : Nat → Int
  | 1 => 18 | 9 => 1 | _ => 0
@[reducible] def va (x : Nat) (c : Option Addr) (d : Nat) : Value := .agg #[.int .i64 (kd x), .string (st x), .int .i64 (dn x), .int .i64 0, .int .i64 (nn x), .slice c 0 d, .slice none 0 0]
/-- The cells of a value lie at b, o. -/
def VAt (w : World) (b o : Nat) (x : Nat) : Prop := ∃ c d,
  w.cell? ⟨b, o, none⟩ = some (.int .i64 (kd x)) ∧ w.cell? ⟨b, o + 1, none⟩ = some (.string (st x)) ∧ w.cell? ⟨b, o + 2, none⟩ = some (.int .i64 (dn x)) ∧
  w.cell? ⟨b, o + 3, none⟩ = some (.int .i64 0) ∧ w.cell? ⟨b, o + 4, none⟩ = some (.int .i64 (nn x)) ∧ w.cell? ⟨b, o + 5, none⟩ = some (.slice c 0 d) ∧ w.cell? ⟨b, o + 6, none⟩ = some (.slice none 0 0)
theorem olds {B : Nat} {w w' : World} (h : Below B w w') : ∀ b o, b < B → w'.cell? ⟨b, o, none⟩ = w.cell? ⟨b, o, none⟩ := fun b o hb => h.cell (p := ⟨b, o, none⟩) hb
theorem oldf {B : Nat} {w w' : World} (h : Below B w w') : ∀ b o, b < B → w'.frozen? ⟨b, o, none⟩ = w.frozen? ⟨b, o, none⟩ := fun b o hb => h.frozen (p := ⟨b, o, none⟩) hb
theorem cset_same {w : World} {b o : Nat} {u v : Value} (h : w.cell? ⟨b, o, none⟩ = some u) : (w.setCell ⟨b, o, none⟩ v).cell? ⟨b, o, none⟩ = some v := World.cell?_setCell_same w ⟨b, o, none⟩ v h
theorem cset_block {w : World} {b o b' o' : Nat} {v : Value} (h : b' ≠ b) : (w.setCell ⟨b', o', none⟩ v).cell? ⟨b, o, none⟩ = w.cell? ⟨b, o, none⟩ :=
  World.cell?_setCell_other w ⟨b', o', none⟩ ⟨b, o, none⟩ v (fun e => h (congrArg Addr.block e))
theorem cset_off {w : World} {b o b' o' : Nat} {v : Value} (h : o' ≠ o) : (w.setCell ⟨b', o', none⟩ v).cell? ⟨b, o, none⟩ = w.cell? ⟨b, o, none⟩ :=
  World.cell?_setCell_other w ⟨b', o', none⟩ ⟨b, o, none⟩ v (fun e => h (congrArg Addr.off e))
theorem VAt.mono {w w' : World} {b o x : Nat} (h : VAt w b o x) (hb : Below w.heap.size w w') (hs : b < w.heap.size) : VAt w' b o x := by
  obtain ⟨c, d, h⟩ := h
  exact ⟨c, d, by simpa only [olds hb _ _ hs] using h⟩
/-- v is a slice of n elements of sz cells each; of the k-th, at block b and place o, E k b o holds. -/
def Sl (w : World) (v : Value) (n sz : Nat) (E : Nat → Nat → Nat → Prop) : Prop :=
  ∃ ao cap, v = .slice ao n cap ∧ n ≤ cap ∧ (n ≠ 0 → ∃ b off, ao = some ⟨b, off, none⟩ ∧ b < w.heap.size ∧ ∀ k, k < n → E k b (off + k * sz))
theorem Sl.mono {w w' : World} {v : Value} {n sz : Nat} {E E' : Nat → Nat → Nat → Prop} (h : Sl w v n sz E) (hb : Below w.heap.size w w')
    (he : ∀ k b o, k < n → b < w.heap.size → E k b o → E' k b o) : Sl w' v n sz E' := by
  obtain ⟨ao, cap, rfl, h1, h2⟩ := h
  refine ⟨ao, cap, rfl, h1, fun hne => ?_⟩
  obtain ⟨b, off, rfl, hbs, hc⟩ := h2 hne
  exact ⟨b, off, rfl, Nat.lt_of_lt_of_le hbs hb.size, fun k hk => he k b _ hk hbs (hc k hk)⟩
theorem Sl.open {w : World} {v : Value} {n sz : Nat} {E : Nat → Nat → Nat → Prop} (h : Sl w v n sz E) : ∃ ao cap, v = .slice ao n cap ∧ n ≤ cap := by
  obtain ⟨ao, cap, h0, h1, _⟩ := h; exact ⟨ao, cap, h0, h1⟩
theorem Sl.at {w : World} {ao : Option Addr} {len cap n sz : Nat} {E : Nat → Nat → Nat → Prop} (h : Sl w (.slice ao len cap) n sz E) {k : Nat} (hk : k < n) :
    ∃ b off, ao = some ⟨b, off, none⟩ ∧ b < w.heap.size ∧ E k b (off + k * sz) := by
  obtain ⟨ao, cap, h0, h1, h2⟩ := h
  simp only [Value.slice.injEq] at h0
  obtain ⟨rfl, rfl, rfl⟩ := h0
  obtain ⟨b, off, hao, hb, hc⟩ := h2 (by omega)
  exact ⟨b, off, hao, hb, hc k hk⟩
theorem sl_nil (w : World) (sz : Nat) (E : Nat → Nat → Nat → Prop) : Sl w (.slice none 0 0) 0 sz E := ⟨none, 0, rfl, by simp, fun h => absurd rfl h⟩
/-- A slice of ints. -/
def Ints (w : World) (v : Value) (xs : List Int) : Prop :=
  Sl w v xs.length 1 (fun k b o => w.cell? ⟨b, o, none⟩ = some (.int .i64 (xs.getD k 0))) ∧ xs.length * 8 ≤ 140737488355328 ∧ ∀ x ∈ xs, -9223372036854775808 ≤ x ∧ x ≤ 9223372036854775807
theorem Ints.mono {w w' : World} {v : Value} {xs : List Int} (h : Ints w v xs) (hb : Below w.heap.size w w') : Ints w' v xs :=
  ⟨h.1.mono hb fun _ _ _ _ hs he => by rw [olds hb _ _ hs]; exact he, h.2⟩
theorem Ints.nil (w : World) : Ints w (.slice none 0 0) [] := ⟨sl_nil _ _ _, by simp, by simp⟩
/-- A slice of values. -/
def Vals (w : World) (v : Value) (xs : List Nat) : Prop :=
  Sl w v xs.length 7 (fun k b o => VAt w b o (xs.getD k 0)) ∧ xs.length ≤ 1000 ∧ ∀ x ∈ xs, x ≤ 10
theorem Vals.mono {w w' : World} {v : Value} {xs : List Nat} (h : Vals w v xs) (hb : Below w.heap.size w w') : Vals w' v xs :=
  ⟨h.1.mono hb fun _ _ _ _ hs he => he.mono hb hs, h.2⟩
theorem Vals.nil (w : World) : Vals w (.slice none 0 0) [] := ⟨sl_nil _ _ _, by simp, by simp⟩
/-- A slice of slices of values. -/
def ValRows (w : World) (v : Value) (rows : List (List Nat)) : Prop :=
  Sl w v rows.length 1 (fun k b o => ∃ ra rc, w.cell? ⟨b, o, none⟩ = some (.slice ra (rows.getD k []).length rc) ∧ Vals w (.slice ra (rows.getD k []).length rc) (rows.getD k [])) ∧ rows.length ≤ 1000
theorem ValRows.mono {w w' : World} {v : Value} {rows : List (List Nat)} (h : ValRows w v rows) (hb : Below w.heap.size w w') : ValRows w' v rows :=
  ⟨h.1.mono hb fun _ _ _ _ hs ⟨ra, rc, h1, h2⟩ => ⟨ra, rc, by rw [olds hb _ _ hs]; exact h1, h2.mono hb⟩, h.2⟩
/-- A slice of slices of ints. -/
def IntRows (w : World) (v : Value) (rows : List (List Int)) : Prop :=
  Sl w v rows.length 1 (fun k b o => ∃ ra rc, w.cell? ⟨b, o, none⟩ = some (.slice ra (rows.getD k []).length rc) ∧ Ints w (.slice ra (rows.getD k []).length rc) (rows.getD k [])) ∧ rows.length * 24 ≤ 140737488355328
theorem IntRows.mono {w w' : World} {v : Value} {rows : List (List Int)} (h : IntRows w v rows) (hb : Below w.heap.size w w') : IntRows w' v rows :=
  ⟨h.1.mono hb fun _ _ _ _ hs ⟨ra, rc, h1, h2⟩ => ⟨ra, rc, by rw [olds hb _ _ hs]; exact h1, h2.mono hb⟩, h.2⟩
theorem ret_bool {a b : Bool} (h : a = b) : Ending.returned (.bool a) = .returned (.bool b) := by rw [h]
theorem ret_int {k : IntKind} {a b : Int} (h : a = b) : Ending.returned (.int k a) = .returned (.int k b) := by rw [h]
theorem all11 {p : Nat → Bool} (h : (List.range 11).all p = true) {x : Nat} (hx : x ≤ 10) : p x = true := by
  rw [List.all_eq_true] at h; exact h x (by simp; omega)
theorem all11' {p : Nat → Nat → Bool} (h : ((List.range 11).all fun x => (List.range 11).all (p x)) = true) {x y : Nat} (hx : x ≤ 10) (hy : y ≤ 10) : p x y = true :=
  all11 (all11 h hx) hy
theorem v_inj {x y : Nat} (hx : x ≤ 10) (hy : y ≤ 10) (h1 : kd x = kd y) (h2 : (st x).toList = (st y).toList) (h3 : dn x = dn y) (h4 : nn x = nn y) : x = y := by
  rw [ByteArray.toList_eq, ByteArray.toList_eq] at h2
  have := all11' (p := fun x y => !(kd x == kd y && (st x).data.toList == (st y).data.toList && dn x == dn y && nn x == nn y) || x == y) (by decide) hx hy
  simpa [h1, h2, h3, h4] using this
theorem below2 (w : World) (a b : Obj) : Below w.heap.size w ((w.alloc a).alloc b) := ((Below.refl _ _).alloc (Nat.le_refl _) _).alloc (by simp) _
theorem below1 (w : World) (a : Obj) : Below w.heap.size w (w.alloc a) := (Below.refl _ _).alloc (Nat.le_refl _) _
theorem bdrew {w w' : World} (h : Below w.drew.heap.size w.drew w') : Below w.heap.size w w' := (Below.refl _ _).drew.trans h
theorem bthen {a b c : World} (h : Below a.heap.size a b) (k : Below b.heap.size b c) : Below a.heap.size a c := h.trans (k.mono h.size)
theorem beq_of_take {α : Type} [BEq α] [LawfulBEq α] {xs ys : List α} (hl : xs.length = ys.length) (h : xs.take xs.length = ys.take xs.length) : (xs == ys) = true := by
  rw [List.take_length, hl, List.take_length] at h; simp [h]
theorem take_succ_of {α : Type} {xs ys : List α} {k : Nat} {d : α} (h : xs.take k = ys.take k) (hx : k < xs.length) (hy : k < ys.length) (e : xs.getD k d = ys.getD k d) : xs.take (k + 1) = ys.take (k + 1) := by
  rw [List.take_succ_eq_append_getElem hx, List.take_succ_eq_append_getElem hy, h]
  simp [List.getD_eq_getElem?_getD, hx, hy] at e
  rw [e]
theorem beq_false_of {α : Type} [BEq α] [LawfulBEq α] {xs ys : List α} {k : Nat} {d : α} (h : xs.getD k d ≠ ys.getD k d) : (xs == ys) = false := by
  apply Bool.eq_false_iff.2; intro e; rw [beq_iff_eq] at e; exact h (by rw [e])
theorem beq_false_len {α : Type} [BEq α] [LawfulBEq α] {xs ys : List α} (h : xs.length ≠ ys.length) : (xs == ys) = false := by
  apply Bool.eq_false_iff.2; intro e; rw [beq_iff_eq] at e; exact h (by rw [e])
theorem getD_le {xs : List Nat} {k n d : Nat} (h : ∀ x ∈ xs, x ≤ n) (hk : k < xs.length) : xs.getD k d ≤ n := by
  rw [List.getD_eq_getElem?_getD]; simp [hk]; exact h _ (List.getElem_mem _)
end Go.Proofs.YtoiemkifgdnhaaaGreatDoor
namespace Go.Proofs.YtoiemkifgdnhaaaGreatDoor
open Go Go.RowKit
theorem flat_get {α β : Type} (f : α → List β) (s : Nat) (hf : ∀ a, (f a).length = s) : ∀ (l : List α) (k j : Nat), j < s → (l.flatMap f)[k * s + j]? = (l[k]?).bind fun a => (f a)[j]?
  | [], k, j, _ => by simp
  | a :: l, 0, j, hj => by
    simp only [List.flatMap_cons, Nat.zero_mul, Nat.zero_add, List.getElem?_cons_zero, Option.bind_some]
    rw [List.getElem?_append_left (by rw [hf]; exact hj)]
  | a :: l, k + 1, j, hj => by
    simp only [List.flatMap_cons, List.getElem?_cons_succ]
    rw [List.getElem?_append_right (by rw [hf, Nat.succ_mul]; omega), hf, show (k + 1) * s + j - s = k * s + j by rw [Nat.succ_mul]; omega]
    exact flat_get f s hf l k j hj
theorem flat_len {α β : Type} (f : α → List β) (s : Nat) (hf : ∀ a, (f a).length = s) : ∀ (l : List α), (l.flatMap f).length = l.length * s
  | [] => by simp
  | a :: l => by simp only [List.flatMap_cons, List.length_append, List.length_cons]; rw [hf, flat_len f s hf l, Nat.succ_mul]; omega
/-- A call's own row, opened: nil, or a block of its own. -/
theorem own_cases {w : World} {base : Nat} {e : TypeId} {size : Nat} {v : Value} {n : Nat} {xs : List Value} (h : w.ownsRow base e size v n xs) :
    (v = .slice none 0 0 ∧ n = 0) ∨ ∃ g cap, v = .slice (some ⟨g, 0, none⟩) n cap ∧ base ≤ g ∧ g < w.heap.size ∧ n ≤ cap ∧ ∀ j, j < n * size → w.cell? ⟨g, j, none⟩ = xs[j]? := by
  rcases h.2 with ⟨h1, h2⟩ | ⟨g, cap, cur, rfl, hb, hg, hn, _⟩
  · exact .inl ⟨h1, h2⟩
  · exact .inr ⟨g, cap, rfl, hb, lt_of_block hg, hn, fun j hj => h.cellAt j hj⟩
def ci (xs : List Int) : List Value := xs.map (Value.int .i64)
theorem own_ints {w : World} {base n : Nat} {e : TypeId} {v : Value} {xs : List Int} (h : w.ownsRow base e 1 v n (ci xs)) (hb : xs.length * 8 ≤ 140737488355328) (hx : ∀ x ∈ xs, -9223372036854775808 ≤ x ∧ x ≤ 9223372036854775807) : Ints w v xs := by
  have hl : n = xs.length := by have := h.1; simp [ci] at this; omega
  subst hl
  refine ⟨?_, hb, hx⟩
  rcases own_cases h with ⟨rfl, h0⟩ | ⟨g, cap, rfl, _, hg, hn, hc⟩
  · rw [h0]; exact sl_nil _ _ _
  · exact ⟨_, cap, rfl, hn, fun _ => ⟨g, 0, rfl, hg, fun k hk => by
      show w.cell? ⟨g, 0 + k * 1, none⟩ = some (.int .i64 (xs.getD k 0))
      rw [show 0 + k * 1 = k by omega, hc k (by omega)]; simp [ci, hk]⟩⟩
/-- The cells of a value. -/
def cv (z : Nat × Option Addr × Nat) : List Value := [.int .i64 (kd z.1), .string (st z.1), .int .i64 (dn z.1), .int .i64 0, .int .i64 (nn z.1), .slice z.2.1 0 z.2.2, .slice none 0 0]
def cvs (zs : List (Nat × Option Addr × Nat)) : List Value := zs.flatMap cv
theorem cvs_len (zs : List (Nat × Option Addr × Nat)) : (cvs zs).length = zs.length * 7 := flat_len cv 7 (fun _ => rfl) zs
theorem cvs_get (zs : List (Nat × Option Addr × Nat)) {k j : Nat} (hj : j < 7) : (cvs zs)[k * 7 + j]? = (zs[k]?).bind fun z => (cv z)[j]? := flat_get cv 7 (fun _ => rfl) zs k j hj
theorem cvs_one (zs : List (Nat × Option Addr × Nat)) : ∀ u ∈ cvs zs, u.oneCell' = true := by
  intro u hu
  simp only [cvs, List.mem_flatMap, cv] at hu
  obtain ⟨z, _, hu⟩ := hu
  simp at hu
  rcases hu with rfl | rfl | rfl | rfl | rfl | rfl | rfl <;> rfl
theorem own_vals {w : World} {base n : Nat} {e : TypeId} {v : Value} {zs : List (Nat × Option Addr × Nat)} (h : w.ownsRow base e 7 v n (cvs zs)) (hb : zs.length ≤ 1000) (hx : ∀ z ∈ zs, z.1 ≤ 10) : Vals w v (zs.map (·.1)) := by
  have hl : n = zs.length := by have := h.1; rw [cvs_len] at this; omega
  subst hl
  refine ⟨?_, by simpa using hb, by simpa using hx⟩
  rcases own_cases h with ⟨rfl, h0⟩ | ⟨g, cap, rfl, _, hg, hn, hc⟩
  · rw [List.length_map, h0]; exact sl_nil _ _ _
  · refine ⟨_, cap, by simp, by simpa using hn, fun _ => ⟨g, 0, rfl, hg, fun k hk => ?_⟩⟩
    simp only [List.length_map] at hk
    have q : ∀ j, j < 7 → w.cell? ⟨g, 0 + k * 7 + j, none⟩ = (cv zs[k])[j]? := fun j hj => by
      rw [show 0 + k * 7 + j = k * 7 + j by omega, hc _ (by omega), cvs_get zs hj]; simp [hk]
    have e1 : (zs.map (·.1)).getD k 0 = zs[k].1 := by simp [hk]
    rw [e1]
    exact ⟨zs[k].2.1, zs[k].2.2, q 0 (by omega), q 1 (by omega), q 2 (by omega), q 3 (by omega), q 4 (by omega), q 5 (by omega), q 6 (by omega)⟩
theorem info_int : (Tryz.prog.info? 3).map (fun i => (i.zero, i.size, i.bytes)) = some (some (.int .i64 0), 1, 8) := by kernel_rfl
theorem info_value : (Tryz.prog.info? 47).map (fun i => (i.zero, i.size, i.bytes)) = some (some (.agg #[.int .i64 0, .string ⟨#[]⟩, .int .i64 0, .int .i64 0, .int .i64 0, .slice none 0 0, .slice none 0 0]), 7, 96) := by kernel_rfl
theorem info_ints : (Tryz.prog.info? 26).map (fun i => (i.zero, i.size, i.bytes)) = some (some (.slice none 0 0), 1, 24) := by kernel_rfl
theorem info_vals : (Tryz.prog.info? 42).map (fun i => (i.zero, i.size, i.bytes)) = some (some (.slice none 0 0), 1, 24) := by kernel_rfl
theorem und_ints : Tryz.prog.underlying 26 = some (.slice 3) := by kernel_rfl
theorem und_vals : Tryz.prog.underlying 42 = some (.slice 47) := by kernel_rfl
theorem und_rows : Tryz.prog.underlying 22 = some (.slice 26) := by kernel_rfl
theorem und_valrows : Tryz.prog.underlying 24 = some (.slice 42) := by kernel_rfl
/-- Two rows whose elements are of different types lie in different blocks. -/
theorem own_apart {w : World} {b b' : Nat} {e e' : TypeId} {s s' : Nat} {v v' : Value} {n n' : Nat} {xs xs' : List Value} (h : w.ownsRow b e s v n xs) (h' : w.ownsRow b' e' s' v' n' xs') (he : e ≠ e') :
    v.ownBlock = none ∨ v.ownBlock ≠ v'.ownBlock := by
  rcases h.2 with ⟨rfl, _⟩ | ⟨g, cap, cur, rfl, _, hg, _⟩
  · exact .inl rfl
  · right
    rcases h'.2 with ⟨rfl, _⟩ | ⟨g', cap', cur', rfl, _, hg', _⟩
    · simp [Value.ownBlock]
    · simp only [Value.ownBlock, ne_eq, Option.some.injEq]
      intro hgg; subst hgg; rw [hg] at hg'; simp at hg'; exact he hg'.2
end Go.Proofs.YtoiemkifgdnhaaaGreatDoor
namespace Go.Proofs.YtoiemkifgdnhaaaGreatDoor
open Go Go.RowKit
set_option maxHeartbeats 400000 in
theorem strings06_nil (c d : Option Addr) (m n : Nat) (w : World) : Calls Tryz.prog 61 #[.slice c 0 m, .slice d 0 n] w fun e w' => e = .returned (.bool true) ∧ w = w' := by
  go_enter Tryz.func61, Tryz.ntmps61
  go_wp2
  refine wp_loop_rounds 1 ?_; rw [rounds_succ]
  go_wp2
  go_ret
  exact ⟨rfl, rfl⟩
set_option maxHeartbeats 400000 in
theorem sameRows06_nil (w : World) : Calls Tryz.prog 62 #[.slice none 0 0, .slice none 0 0] w fun e w' => e = .returned (.bool true) ∧ w = w' := by
  go_enter Tryz.func62, Tryz.ntmps62
  go_wp2
  refine wp_loop_rounds 1 ?_; rw [rounds_succ]
  go_wp2
  go_ret
  exact ⟨rfl, rfl⟩
set_option maxHeartbeats 400000 in
theorem equal06 (x y : Nat) (c d : Option Addr) (m n : Nat) (w : World) (hx : x ≤ 10) (hy : y ≤ 10) : Calls Tryz.prog 29 #[va x c m, va y d n] w fun e w' => e = .returned (.bool (x == y)) ∧ Below w.heap.size w w' := by
  go_enter Tryz.func29, Tryz.ntmps29
  go_wp2_with (first | (go_at_call 61; refine (strings06_nil _ _ _ _ _).mono ?_; rintro e w' ⟨rfl, rfl⟩) | (go_at_call 62; refine (sameRows06_nil _).mono ?_; rintro e w' ⟨rfl, rfl⟩))
  all_goals go_ret
  all_goals refine ⟨ret_bool ?_, below2 _ _ _⟩
  all_goals first
    | exact (beq_iff_eq.2 (v_inj hx hy ‹_› ‹_› ‹_› ‹_›)).symm
    | (have e : ¬ x = y := by rintro rfl; simp_all
       simp [e])
set_option maxHeartbeats 400000 in
theorem same06 (w : World) (a b : Value) (xs ys : List Nat) (ha : Vals w a xs) (hb : Vals w b ys) : Calls Tryz.prog 32 #[a, b] w fun e w' => e = .returned (.bool (xs == ys)) ∧ Below w.heap.size w w' := by
  have HA := Lib.hid ha; have HB := Lib.hid hb
  obtain ⟨ao, ac, rfl, ha1⟩ := ha.1.open
  obtain ⟨bo, bc, rfl, hb1⟩ := hb.1.open
  have ha2 := ha.2.1; have hb2 := hb.2.1
  clear ha hb
  by_cases hl : xs.length = ys.length
  · have hl' : ((xs.length : Int) != ys.length) = false := by simp [hl]
    have HL := Lib.hid hl; clear hl
    go_enter Tryz.func32, Tryz.ntmps32
    go_wp2
    go_loopw [5, 6] (fun i s wr => ∃ k : Nat, k ≤ xs.length ∧ i = .int .i64 k ∧ xs.take k = ys.take k ∧ Below w.heap.size w wr) (fun i _ _ => xs.length - (intOf i).toNat)
    case atStart => exact ⟨0, by omega, rfl, by simp, Below.refl _ _⟩
    case round =>
      obtain ⟨k, hk, rfl, he, hbel⟩ := hrel
      have HR := Lib.hid he; have HBL := Lib.hid hbel
      by_cases hlt : k < xs.length
      · have h1 : (k:Int) < xs.length := by omega
        have hl1 := HL.out
        have h2 : (k:Int) < ys.length := by omega
        have h0 : 0 ≤ (k:Int) := by omega
        have va := HA.out.mono hbel
        have vb := HB.out.mono hbel
        obtain ⟨b1, o1, rfl, g1, c1, d1, p0, p1, p2, p3, p4, p5, p6⟩ := va.1.at hlt
        obtain ⟨b2, o2, rfl, g2, c2, d2, q0, q1, q2, q3, q4, q5, q6⟩ := vb.1.at (show k < ys.length by omega)
        have hx : xs.getD k 0 ≤ 10 := getD_le va.2.2 hlt
        have hy : ys.getD k 0 ≤ 10 := getD_le vb.2.2 (by omega)
        clear va vb hl1 he hbel
        generalize hgx : xs.getD k 0 = x at *
        generalize hgy : ys.getD k 0 = y at *
        have HX := Lib.hid hgx; have HY := Lib.hid hgy; clear hgx hgy
        go_wp2
        go_region_held3 (fun w' => ∀ b o, b < wr.heap.size → w'.cell? ⟨b, o, none⟩ = wr.cell? ⟨b, o, none⟩) (first | exact olds (Below.refl _ _) | exact olds ((Below.refl _ _).drew) | exact olds ‹Below wr.heap.size wr _›)  (first | (go_at_call 29; refine (equal06 _ _ _ _ _ _ _ hx hy).mono ?_; rintro e w1 ⟨rfl, hbw0⟩; have hbw := bdrew hbw0; clear hbw0))
        go_wp2
        · go_ret
          have : ¬ x = y := by simp_all
          exact ⟨ret_bool (beq_false_of (d := 0) (by rw [HX.out, HY.out]; exact this)).symm, bthen HBL.out hbw⟩
        · go_roundw
          case rel =>
            have : x = y := by simp_all
            exact ⟨k + 1, by omega, by go_num, take_succ_of HR.out hlt (by have := HL.out; omega) (by rw [HX.out, HY.out]; exact this), bthen HBL.out hbw⟩
          case measure => simp [intOf]; omega
      · clear he hbel
        go_wp2
        go_ret
        obtain rfl : k = xs.length := by omega
        exact ⟨ret_bool (beq_of_take HL.out HR.out).symm, HBL.out⟩
  · have hl' : ((xs.length : Int) != ys.length) = true := by simp; omega
    have HL := Lib.hid hl; clear hl
    go_enter Tryz.func32, Tryz.ntmps32
    go_wp2
    go_ret
    exact ⟨ret_bool (beq_false_len HL.out).symm, Below.refl _ _⟩
set_option maxHeartbeats 400000 in
theorem ints13 (w : World) (a b : Value) (xs ys : List Int) (ha : Ints w a xs) (hb : Ints w b ys) : Calls Tryz.prog 20 #[a, b] w fun e w' => e = .returned (.bool (xs == ys)) ∧ Below w.heap.size w w' := by
  have HA := Lib.hid ha; have HB := Lib.hid hb
  obtain ⟨ao, ac, rfl, ha1⟩ := ha.1.open
  obtain ⟨bo, bc, rfl, hb1⟩ := hb.1.open
  have ha2 := ha.2.1; have hb2 := hb.2.1
  clear ha hb
  by_cases hl : xs.length = ys.length
  · have hl' : ((xs.length : Int) != ys.length) = false := by simp [hl]
    have HL := Lib.hid hl; clear hl
    go_enter Tryz.func20, Tryz.ntmps20
    go_wp2
    go_loopw [5] (fun i wr => ∃ k : Nat, k ≤ xs.length ∧ i = .int .i64 k ∧ xs.take k = ys.take k ∧ Below w.heap.size w wr) (fun i _ => xs.length - (intOf i).toNat)
    case atStart => exact ⟨0, by omega, rfl, by simp, Below.refl _ _⟩
    case round =>
      obtain ⟨k, hk, rfl, he, hbel⟩ := hrel
      have HR := Lib.hid he; have HBL := Lib.hid hbel
      by_cases hlt : k < xs.length
      · have h1 : (k:Int) < xs.length := by omega
        have hl1 := HL.out
        have h2 : (k:Int) < ys.length := by omega
        have h0 : 0 ≤ (k:Int) := by omega
        have va := HA.out.mono hbel
        have vb := HB.out.mono hbel
        obtain ⟨b1, o1, rfl, g1, p0⟩ := va.1.at hlt
        obtain ⟨b2, o2, rfl, g2, q0⟩ := vb.1.at (show k < ys.length by omega)
        clear va vb hl1 he hbel
        simp only [Nat.mul_one] at p0 q0
        generalize hgx : xs.getD k 0 = x at *
        generalize hgy : ys.getD k 0 = y at *
        have HX := Lib.hid hgx; have HY := Lib.hid hgy; clear hgx hgy
        go_wp2
        go_quiet (fail)
        go_wp2
        · go_ret
          have : ¬ x = y := by simp_all
          exact ⟨ret_bool (beq_false_of (d := 0) (by rw [HX.out, HY.out]; exact this)).symm, HBL.out.trans (Below.mk rfl rfl rfl (Nat.le_refl _) (fun _ _ => rfl))⟩
        · go_roundw
          case rel =>
            have : x = y := by simp_all
            exact ⟨k + 1, by omega, by go_num, take_succ_of HR.out hlt (by have := HL.out; omega) (by rw [HX.out, HY.out]; exact this), HBL.out.trans (Below.mk rfl rfl rfl (Nat.le_refl _) (fun _ _ => rfl))⟩
          case measure => simp [intOf]; omega
      · clear he hbel
        go_wp2
        go_ret
        obtain rfl : k = xs.length := by omega
        exact ⟨ret_bool (beq_of_take HL.out HR.out).symm, HBL.out⟩
  · have hl' : ((xs.length : Int) != ys.length) = true := by simp; omega
    have HL := Lib.hid hl; clear hl
    go_enter Tryz.func20, Tryz.ntmps20
    go_wp2
    go_ret
    exact ⟨ret_bool (beq_false_len HL.out).symm, Below.refl _ _⟩
end Go.Proofs.YtoiemkifgdnhaaaGreatDoor
