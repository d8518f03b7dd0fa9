/- Small parts of the program's values: comparing ints and texts, which fields are empty, the classes of kinds. Conditions: each value is one of the eleven.
  Which of the eleven values are right; when one is less than another; equality. Conditions: each value is one of the eleven; the table of powers holds powers.
  Decimals are compared; one value is less than another. Conditions: each value is one of the eleven; the table of powers holds powers.
  The program's comparison of decimals. Conditions: small whole numbers; the table of powers holds powers. -/
import Derived.Test.YtoiemkifgdnhaaaGreatDoorL2
import Derived.WalkLawsBesides
namespace Go.Proofs.YtoiemkifgdnhaaaGreatDoor
open Go Go.RowKit
def cmp3 (a b : Int) : Int := if a < b then -1 else if b < a then 1 else 0
def cmpS (a b : ByteArray) : Int := if Op.bytesLess a.toList b.toList then -1 else if (!a.toList == b.toList) = true then 1 else 0
set_option maxHeartbeats 400000 in
theorem isNaN_int (a : Int) (w : World) : Calls Tryz.prog 134 #[.int .i64 a] w fun e w' => e = .returned (.bool false) ∧ w = w' := by
  go_enter Tryz.func134, Tryz.ntmps134
  go_wp2
  go_ret
  simp
set_option maxHeartbeats 400000 in
theorem isNaN_u64 (a : Int) (w : World) : Calls Tryz.prog 166 #[.int .u64 a] w fun e w' => e = .returned (.bool false) ∧ w = w' := by
  go_enter Tryz.func166, Tryz.ntmps166
  go_wp2
  go_ret
  simp
set_option maxHeartbeats 400000 in
theorem isNaN_str (a : ByteArray) (w : World) : Calls Tryz.prog 147 #[.string a] w fun e w' => e = .returned (.bool false) ∧ w = w' := by
  go_enter Tryz.func147, Tryz.ntmps147
  go_wp2
  go_ret
  simp
set_option maxHeartbeats 400000 in
theorem compare_int (a b : Int) (w : World) : Calls Tryz.prog 144 #[.int .i64 a, .int .i64 b] w fun e w' => e = .returned (.int .i64 (cmp3 a b)) ∧ w = w' := by
  go_enter Tryz.func144, Tryz.ntmps144
  go_wp2_with (go_at_call 134; refine (isNaN_int _ _).mono ?_; rintro e w' ⟨rfl, rfl⟩)
  all_goals go_ret
  all_goals refine ⟨ret_int ?_, rfl⟩
  all_goals (unfold cmp3; (repeat' split) <;> omega)
set_option maxHeartbeats 400000 in
theorem compare_u64 (a b : Int) (w : World) : Calls Tryz.prog 150 #[.int .u64 a, .int .u64 b] w fun e w' => e = .returned (.int .i64 (cmp3 a b)) ∧ w = w' := by
  go_enter Tryz.func150, Tryz.ntmps150
  go_wp2_with (go_at_call 166; refine (isNaN_u64 _ _).mono ?_; rintro e w' ⟨rfl, rfl⟩)
  all_goals go_ret
  all_goals refine ⟨ret_int ?_, rfl⟩
  all_goals (unfold cmp3; (repeat' split) <;> omega)
set_option maxHeartbeats 400000 in
theorem compare_str (a b : ByteArray) (w : World) : Calls Tryz.prog 119 #[.string a, .string b] w fun e w' => e = .returned (.int .i64 (cmpS a b)) ∧ w = w' := by
  go_enter Tryz.func119, Tryz.ntmps119
  go_wp2_with (go_at_call 147; refine (isNaN_str _ _).mono ?_; rintro e w' ⟨rfl, rfl⟩)
  all_goals go_ret
  all_goals refine ⟨ret_int ?_, rfl⟩
  all_goals (unfold cmpS; simp [*])
set_option maxHeartbeats 400000 in
theorem byN_any (x y : Nat) (c d : Option Addr) (m n : Nat) (w : World) : Calls Tryz.prog 115 #[va x c m, va y d n] w fun e w' => e = .returned (.int .i64 (cmp3 (nn x) (nn y))) ∧ Below w.heap.size w w' := by
  go_enter Tryz.func115, Tryz.ntmps115
  go_wp2_with (go_at_call 144; refine (compare_int _ _ _).mono ?_; rintro e w' ⟨rfl, rfl⟩)
  go_ret
  exact ⟨rfl, below2 _ _ _⟩
set_option maxHeartbeats 400000 in
theorem byS_any (x y : Nat) (c d : Option Addr) (m n : Nat) (w : World) : Calls Tryz.prog 118 #[va x c m, va y d n] w fun e w' => e = .returned (.int .i64 (cmpS (st x) (st y))) ∧ Below w.heap.size w w' := by
  go_enter Tryz.func118, Tryz.ntmps118
  go_wp2_with (go_at_call 119; refine (compare_str _ _ _).mono ?_; rintro e w' ⟨rfl, rfl⟩)
  go_ret
  exact ⟨rfl, below2 _ _ _⟩
def clsE : Array MapEntry := #[⟨.int .i64 0, (.agg #[.func (.func 113) #[] #[], .func (.func 115) #[] #[]]), 0⟩, ⟨.int .i64 1, (.agg #[.func (.func 116) #[] #[], .func (.func 118) #[] #[]]), 1⟩, ⟨.int .i64 2, (.agg #[.func (.func 120) #[] #[], .func (.func 122) #[] #[]]), 2⟩, ⟨.int .i64 3, (.agg #[.func (.func 124) #[] #[], .func (.func 115) #[] #[]]), 3⟩, ⟨.int .i64 4, (.agg #[.func (.func 125) #[] #[], .func (.func 115) #[] #[]]), 4⟩, ⟨.int .i64 5, (.agg #[.func (.func 126) #[] #[], .func (.func 128) #[] #[]]), 5⟩]
def clsL : List (Int × Value) := [(0, (.agg #[.func (.func 113) #[] #[], .func (.func 115) #[] #[]])), (1, (.agg #[.func (.func 116) #[] #[], .func (.func 118) #[] #[]])), (2, (.agg #[.func (.func 120) #[] #[], .func (.func 122) #[] #[]])), (3, (.agg #[.func (.func 124) #[] #[], .func (.func 115) #[] #[]])), (4, (.agg #[.func (.func 125) #[] #[], .func (.func 115) #[] #[]])), (5, (.agg #[.func (.func 126) #[] #[], .func (.func 128) #[] #[]]))]
set_option maxRecDepth 100000 in
set_option maxHeartbeats 400000 in
theorem classes_any (w : World) : Calls Tryz.prog 90 #[] w fun e w' => e = .returned (.map (some w.heap.size)) ∧ w.alloc (.map clsE 6) = w' := by
  have hmm := @run_makeMap Tryz.prog
  have hT : Tryz.prog.underlying 119 = some (.map 3 117) := by kernel_rfl
  have hK : Tryz.prog.underlying 3 = some (.int .i64) := by kernel_rfl
  have h0 := run_insert_new (P := Tryz.prog) w 119 3 117 .i64 0 (.agg #[.func (.func 113) #[] #[], .func (.func 115) #[] #[]]) #[] 0 hT hK rfl
  have h1 := run_insert_new (P := Tryz.prog) w 119 3 117 .i64 1 (.agg #[.func (.func 116) #[] #[], .func (.func 118) #[] #[]]) #[⟨.int .i64 0, (.agg #[.func (.func 113) #[] #[], .func (.func 115) #[] #[]]), 0⟩] 1 hT hK rfl
  have h2 := run_insert_new (P := Tryz.prog) w 119 3 117 .i64 2 (.agg #[.func (.func 120) #[] #[], .func (.func 122) #[] #[]]) #[⟨.int .i64 0, (.agg #[.func (.func 113) #[] #[], .func (.func 115) #[] #[]]), 0⟩, ⟨.int .i64 1, (.agg #[.func (.func 116) #[] #[], .func (.func 118) #[] #[]]), 1⟩] 2 hT hK rfl
  have h3 := run_insert_new (P := Tryz.prog) w 119 3 117 .i64 3 (.agg #[.func (.func 124) #[] #[], .func (.func 115) #[] #[]]) #[⟨.int .i64 0, (.agg #[.func (.func 113) #[] #[], .func (.func 115) #[] #[]]), 0⟩, ⟨.int .i64 1, (.agg #[.func (.func 116) #[] #[], .func (.func 118) #[] #[]]), 1⟩, ⟨.int .i64 2, (.agg #[.func (.func 120) #[] #[], .func (.func 122) #[] #[]]), 2⟩] 3 hT hK rfl
  have h4 := run_insert_new (P := Tryz.prog) w 119 3 117 .i64 4 (.agg #[.func (.func 125) #[] #[], .func (.func 115) #[] #[]]) #[⟨.int .i64 0, (.agg #[.func (.func 113) #[] #[], .func (.func 115) #[] #[]]), 0⟩, ⟨.int .i64 1, (.agg #[.func (.func 116) #[] #[], .func (.func 118) #[] #[]]), 1⟩, ⟨.int .i64 2, (.agg #[.func (.func 120) #[] #[], .func (.func 122) #[] #[]]), 2⟩, ⟨.int .i64 3, (.agg #[.func (.func 124) #[] #[], .func (.func 115) #[] #[]]), 3⟩] 4 hT hK rfl
  have h5 := run_insert_new (P := Tryz.prog) w 119 3 117 .i64 5 (.agg #[.func (.func 126) #[] #[], .func (.func 128) #[] #[]]) #[⟨.int .i64 0, (.agg #[.func (.func 113) #[] #[], .func (.func 115) #[] #[]]), 0⟩, ⟨.int .i64 1, (.agg #[.func (.func 116) #[] #[], .func (.func 118) #[] #[]]), 1⟩, ⟨.int .i64 2, (.agg #[.func (.func 120) #[] #[], .func (.func 122) #[] #[]]), 2⟩, ⟨.int .i64 3, (.agg #[.func (.func 124) #[] #[], .func (.func 115) #[] #[]]), 3⟩, ⟨.int .i64 4, (.agg #[.func (.func 125) #[] #[], .func (.func 115) #[] #[]]), 4⟩] 5 hT hK rfl
  simp only [List.push_toArray, List.nil_append, List.cons_append, Nat.reduceAdd] at h0 h1 h2 h3 h4 h5
  clear hT hK
  go_enter Tryz.func90, Tryz.ntmps90
  go_wp2
  go_ret
  exact ⟨rfl, rfl⟩
theorem classes_at (w : World) : MapAt (w.alloc (.map clsE 6)) w.heap.size .i64 clsL := ⟨clsE, 6, by show (w.heap.push _)[w.heap.size]? = _; simp, rfl⟩
end Go.Proofs.YtoiemkifgdnhaaaGreatDoor
namespace Go.Proofs.YtoiemkifgdnhaaaGreatDoor
open Go Go.RowKit
theorem vkind {x : Nat} (hx : x ≤ 10) : (x ≤ 1 ∧ kd x = 0 ∧ st x = ⟨#[]⟩ ∧ dn x = 0 ∧ 0 ≤ nn x ∧ nn x ≤ 99) ∨ ((x = 2 ∨ x = 3) ∧ kd x = 1 ∧ dn x = 0 ∧ nn x = 0) ∨
    ((4 ≤ x ∧ x ≤ 8) ∧ kd x = 2 ∧ st x = ⟨#[]⟩ ∧ nn x = 0 ∧ 1 ≤ dn x ∧ dn x ≤ 7) ∨ (x = 9 ∧ kd x = 4 ∧ st x = ⟨#[]⟩ ∧ dn x = 0 ∧ nn x = 1) ∨ (x = 10 ∧ kd x = 9 ∧ st x = ⟨#[]⟩ ∧ dn x = 0 ∧ nn x = 0) := by
  match x, hx with
  | 0, _ | 1, _ | 2, _ | 3, _ | 4, _ | 5, _ | 6, _ | 7, _ | 8, _ | 9, _ | 10, _ => simp [kd, st, dn, nn]
set_option maxHeartbeats 400000 in
theorem bareN (x : Nat) (c : Option Addr) (m : Nat) (w : World) (hs : st x = ⟨#[]⟩) (hd : dn x = 0) :
    Calls Tryz.prog 114 #[va x c m, .int .u8 78] w fun e w' => e = .returned (.bool true) ∧ Below w.heap.size w w' := by
  go_enter Tryz.func114, Tryz.ntmps114
  go_wp2
  go_ret
  exact ⟨rfl, below1 _ _⟩
set_option maxHeartbeats 400000 in
theorem bareS (x : Nat) (c : Option Addr) (m : Nat) (w : World) (hs : nn x = 0) (hd : dn x = 0) :
    Calls Tryz.prog 114 #[va x c m, .int .u8 83] w fun e w' => e = .returned (.bool true) ∧ Below w.heap.size w w' := by
  go_enter Tryz.func114, Tryz.ntmps114
  go_wp2
  go_ret
  exact ⟨rfl, below1 _ _⟩
set_option maxHeartbeats 400000 in
theorem bareD (x : Nat) (c : Option Addr) (m : Nat) (w : World) (hs : nn x = 0) (hd : st x = ⟨#[]⟩) :
    Calls Tryz.prog 114 #[va x c m, .int .u8 68] w fun e w' => e = .returned (.bool true) ∧ Below w.heap.size w w' := by
  go_enter Tryz.func114, Tryz.ntmps114
  go_wp2
  go_ret
  exact ⟨rfl, below1 _ _⟩
set_option maxHeartbeats 400000 in
theorem right_none (x : Nat) (c : Option Addr) (m : Nat) (w : World) (hs : st x = ⟨#[]⟩) (hd : dn x = 0) (h0 : 0 ≤ nn x) (h1 : nn x ≤ 99) :
    Calls Tryz.prog 113 #[va x c m] w fun e w' => e = .returned (.bool true) ∧ Below w.heap.size w w' := by
  have HS := Lib.hid hs; have HD := Lib.hid hd; clear hs hd
  go_enter Tryz.func113, Tryz.ntmps113
  go_wp2_with (go_at_call 114; refine (bareN _ _ _ _ HS.out HD.out).mono ?_; rintro e w1 ⟨rfl, hb⟩; have hc := olds hb)
  go_ret
  exact ⟨rfl, bthen (below1 _ _) hb⟩
set_option maxHeartbeats 400000 in
theorem plain_not (n : Int) (w : World) (h : 32 ≤ n) (h2 : n ≤ 126) :
    Calls Tryz.prog 146 #[.int .i32 n] w fun e w' => e = .returned (.bool false) ∧ w = w' := by
  go_enter Tryz.func146, Tryz.ntmps146
  go_wp2
  go_ret
  exact ⟨ret_bool (by simp; omega), rfl⟩
set_option maxHeartbeats 400000 in
theorem indexFunc_one (c : UInt8) (hc : c = 97 ∨ c = 98) (w : World) :
    Calls Tryz.prog 172 #[.string ⟨#[c]⟩, .func (.func 146) #[] #[], .bool true] w fun e w' => e = .returned (.int .i64 (-1)) ∧ Below w.heap.size w w' := by
  rcases hc with rfl | rfl
  · have n0 := run_next_ascii (P := Tryz.prog) w ⟨#[97]⟩ 0 0 (by decide) (by decide)
    have n1 := run_next_end (P := Tryz.prog) w ⟨#[97]⟩ 1 0 (by decide)
    go_enter Tryz.func172, Tryz.ntmps172
    go_wp2
    refine wp_loop_rounds 2 ?_; rw [rounds_succ]
    go_wp2_with (go_at_call 146; refine (plain_not _ _ (by decide) (by decide)).mono ?_; rintro e w1 ⟨rfl, rfl⟩)
    rw [rounds_succ]
    go_wp2
    go_ret
    exact ⟨rfl, below1 _ _⟩
  · have n0 := run_next_ascii (P := Tryz.prog) w ⟨#[98]⟩ 0 0 (by decide) (by decide)
    have n1 := run_next_end (P := Tryz.prog) w ⟨#[98]⟩ 1 0 (by decide)
    go_enter Tryz.func172, Tryz.ntmps172
    go_wp2
    refine wp_loop_rounds 2 ?_; rw [rounds_succ]
    go_wp2_with (go_at_call 146; refine (plain_not _ _ (by decide) (by decide)).mono ?_; rintro e w1 ⟨rfl, rfl⟩)
    rw [rounds_succ]
    go_wp2
    go_ret
    exact ⟨rfl, below1 _ _⟩
set_option maxHeartbeats 400000 in
theorem plain_one (c : UInt8) (hc : c = 97 ∨ c = 98) (w : World) : Calls Tryz.prog 117 #[.string ⟨#[c]⟩] w fun e w' => e = .returned (.bool true) ∧ Below w.heap.size w w' := by
  have h1 : Calls Tryz.prog 163 #[.string ⟨#[c]⟩, .func (.func 146) #[] #[]] w fun e w' => e = .returned (.int .i64 (-1)) ∧ Below w.heap.size w w' := by
    have HC := Lib.hid hc; clear hc
    go_enter Tryz.func163, Tryz.ntmps163
    go_wp2_with (go_at_call 172; refine (indexFunc_one _ HC.out _).mono ?_; rintro e w1 ⟨rfl, hb⟩)
    go_ret
    exact ⟨rfl, hb⟩
  have h2 : Calls Tryz.prog 145 #[.string ⟨#[c]⟩, .func (.func 146) #[] #[]] w fun e w' => e = .returned (.bool false) ∧ Below w.heap.size w w' := by
    have HC := Lib.hid hc; clear hc
    have H1 := Lib.hid h1; clear h1
    go_enter Tryz.func145, Tryz.ntmps145
    go_wp2_with (go_at_call 163; refine H1.out.mono ?_; rintro e w1 ⟨rfl, hb⟩)
    go_ret
    exact ⟨rfl, hb⟩
  clear h1 hc
  have H2 := Lib.hid h2; clear h2
  go_enter Tryz.func117, Tryz.ntmps117
  go_wp2_with (go_at_call 145; refine H2.out.mono ?_; rintro e w1 ⟨rfl, hb⟩)
  go_ret
  exact ⟨rfl, hb⟩
theorem plain_st (x : Nat) (h : x = 2 ∨ x = 3) (w : World) : Calls Tryz.prog 117 #[.string (st x)] w fun e w' => e = .returned (.bool true) ∧ Below w.heap.size w w' := by
  rcases h with rfl | rfl
  · exact plain_one 97 (.inl rfl) w
  · exact plain_one 98 (.inr rfl) w
set_option maxHeartbeats 400000 in
theorem right_text (x : Nat) (c : Option Addr) (m : Nat) (w : World) (h : x = 2 ∨ x = 3) (hs : dn x = 0) (hd : nn x = 0) :
    Calls Tryz.prog 116 #[va x c m] w fun e w' => e = .returned (.bool true) ∧ Below w.heap.size w w' := by
  have HS := Lib.hid hs; have HD := Lib.hid hd; have HX := Lib.hid h; clear hs hd h
  go_enter Tryz.func116, Tryz.ntmps116
  go_wp2_with (first | (go_at_call 114; refine (bareS _ _ _ _ HD.out HS.out).mono ?_; rintro e w1 ⟨rfl, hb⟩; have hc := olds hb) | (go_at_call 117; refine (plain_st _ HX.out _).mono ?_; rintro e w2 ⟨rfl, hb2⟩))
  go_ret
  exact ⟨rfl, bthen (bthen (below1 _ _) hb) hb2⟩
set_option maxHeartbeats 400000 in
theorem right_bool (x : Nat) (c : Option Addr) (m : Nat) (w : World) (hs : st x = ⟨#[]⟩) (hd : dn x = 0) (h1 : nn x = 1) :
    Calls Tryz.prog 125 #[va x c m] w fun e w' => e = .returned (.bool true) ∧ Below w.heap.size w w' := by
  have HS := Lib.hid hs; have HD := Lib.hid hd; clear hs hd
  have n0 : (nn x == 0) = false := by rw [h1]; decide
  have n1 : (nn x == 1) = true := by rw [h1]; decide
  clear h1
  go_enter Tryz.func125, Tryz.ntmps125
  go_wp2_with (go_at_call 114; refine (bareN _ _ _ _ HS.out HD.out).mono ?_; rintro e w1 ⟨rfl, hb⟩; have hc := olds hb)
  go_ret
  exact ⟨rfl, bthen (below1 _ _) hb⟩
set_option maxHeartbeats 400000 in
theorem decRight (d : Int) (w : World) (h0 : 0 ≤ d) (h1 : d ≤ 1000) :
    Calls Tryz.prog 121 #[.agg #[.int .i64 d, .int .i64 0]] w fun e w' => e = .returned (.bool true) ∧ Below w.heap.size w w' := by
  have h2 : (-1000000000000000 : Int) ≤ d := by omega
  have h3 : d ≤ (1000000000000000 : Int) := by omega
  go_enter Tryz.func121, Tryz.ntmps121
  go_wp2
  go_ret
  exact ⟨rfl, below1 _ _⟩
set_option maxHeartbeats 400000 in
theorem right_number (x : Nat) (c : Option Addr) (m : Nat) (w : World) (hs : st x = ⟨#[]⟩) (hd : nn x = 0) (h0 : 1 ≤ dn x) (h1 : dn x ≤ 7) :
    Calls Tryz.prog 120 #[va x c m] w fun e w' => e = .returned (.bool true) ∧ Below w.heap.size w w' := by
  have HS := Lib.hid hs; have HD := Lib.hid hd; clear hs hd
  go_enter Tryz.func120, Tryz.ntmps120
  go_wp2_with (first | (go_at_call 114; refine (bareD _ _ _ _ HD.out HS.out).mono ?_; rintro e w1 ⟨rfl, hb⟩; have hc := olds hb) | (go_at_call 121; refine (decRight _ _ (by omega) (by omega)).mono ?_; rintro e w2 ⟨rfl, hb2⟩))
  go_ret
  exact ⟨rfl, bthen (bthen (below1 _ _) hb) hb2⟩
set_option maxHeartbeats 400000 in
theorem decKnown (d : Int) (w : World) (h0 : 0 ≤ d) (h1 : d ≤ 1000) :
    Calls Tryz.prog 164 #[.agg #[.int .i64 d, .int .i64 0]] w fun e w' => e = .returned (.agg #[.int .i64 d, .int .i64 0]) ∧ Below w.heap.size w w' := by
  go_enter Tryz.func164, Tryz.ntmps164
  go_wp2_with (go_at_call 121; refine (decRight _ _ (by omega) (by omega)).mono ?_; rintro e w2 ⟨rfl, hb⟩; have hc := olds hb; have hf := oldf hb)
  exact bodyPost_ret (v := .agg #[.int .i64 d, .int .i64 0]) (by simp [results, Tryz.results164, go_sem, hc]) rfl ⟨rfl, ((bthen (below2 _ _ _) hb).setCell (by simp) _).setCell (by simp) _⟩
/-- The table of powers. -/
def pw : List Int := [1, 10, 100, 1000, 10000, 100000, 1000000, 10000000, 100000000, 1000000000, 10000000000, 100000000000, 1000000000000, 10000000000000, 100000000000000, 1000000000000000, 10000000000000000, 100000000000000000, 1000000000000000000]
def G (w : World) : Prop := 2 < w.heap.size ∧ ∀ i, i < 19 → w.cell? ⟨2, i, none⟩ = some (.int .i64 (pw.getD i 0))
theorem G.mono {w w' : World} (h : G w) (hb : Below w.heap.size w w') : G w' := ⟨Nat.lt_of_lt_of_le h.1 hb.size, fun i hi => by rw [olds hb _ _ h.1]; exact h.2 i hi⟩
set_option maxRecDepth 100000 in
set_option maxHeartbeats 400000 in
theorem mul64_small (d : Int) (h0 : d = 1 ∨ d = 2 ∨ d = 3 ∨ d = 5 ∨ d = 7) (w : World) :
    Calls Tryz.prog 173 #[.int .u64 d, .int .u64 1000000] w fun e w' => e = .returned (.tuple #[.int .u64 0, .int .u64 (d * 1000000)]) ∧ w = w' := by
  rcases h0 with rfl | rfl | rfl | rfl | rfl
  all_goals
    go_enter Tryz.func173, Tryz.ntmps173
    go_wp2
    go_ret2
    exact ⟨rfl, rfl⟩
end Go.Proofs.YtoiemkifgdnhaaaGreatDoor
namespace Go.Proofs.YtoiemkifgdnhaaaGreatDoor
open Go Go.RowKit
theorem ks {B : Nat} {w w' : World} (h : Below B w w') : w.heap.size ≤ w'.heap.size ∧ ∀ b o, b < B → w'.cell? ⟨b, o, none⟩ = w.cell? ⟨b, o, none⟩ := ⟨h.size, olds h⟩
theorem G.of {w w' : World} (h : G w) (k : w.heap.size ≤ w'.heap.size ∧ ∀ b o, b < w.heap.size → w'.cell? ⟨b, o, none⟩ = w.cell? ⟨b, o, none⟩) : G w' :=
  ⟨Nat.lt_of_lt_of_le h.1 k.1, fun i hi => by rw [k.2 _ _ h.1]; exact h.2 i hi⟩
def orI (a b : Int) : Int := if a = 0 then b else a
set_option maxRecDepth 100000 in
set_option maxHeartbeats 400000 in
theorem product_small (d : Int) (h0 : d = 1 ∨ d = 2 ∨ d = 3 ∨ d = 5 ∨ d = 7) (w : World) :
    Calls Tryz.prog 165 #[.int .i64 d, .int .i64 1000000] w fun e w' => e = .returned (.agg #[.bool false, .int .u64 0, .int .u64 (d * 1000000)]) ∧ Below w.heap.size w w' := by
  have hm := fun w => Lib.hid (mul64_small d h0 w)
  have HM := Lib.hid hm; clear hm
  have h1 : 1 ≤ d := by omega
  have h2 : d ≤ 7 := by omega
  have h3 : 0 ≤ d := by omega
  clear h0
  go_enter Tryz.func165, Tryz.ntmps165
  go_wp2_with (go_at_call 173; refine ((HM.out _).out).mono ?_; rintro e w1 ⟨rfl, rfl⟩)
  exact bodyPost_ret (v := .agg #[.bool false, .int .u64 0, .int .u64 (d * 1000000)]) (by simp [results, Tryz.results165, go_sem, h3]) rfl ⟨rfl, below1 _ _⟩
set_option maxRecDepth 100000 in
set_option maxHeartbeats 400000 in
theorem units_small (d : Int) (h0 : d = 1 ∨ d = 2 ∨ d = 3 ∨ d = 5 ∨ d = 7) (w : World) (hG : G w) :
    Calls Tryz.prog 148 #[.agg #[.int .i64 d, .int .i64 0]] w fun e w' => e = .returned (.agg #[.bool false, .int .u64 0, .int .u64 (d * 1000000)]) ∧ Below w.heap.size w w' := by
  have HM := Lib.hid (fun w => product_small d h0 w)
  have HG := Lib.hid hG; clear hG
  have h1 : 1 ≤ d := by omega
  have h2 : d ≤ 7 := by omega
  clear h0
  go_enter Tryz.func148, Tryz.ntmps148
  go_wp2_with (go_at_call 164; refine (decKnown _ _ (by omega) (by omega)).mono ?_; rintro e w2 ⟨rfl, hb⟩; have hc := olds hb; have hf := oldf hb)
  have hz := hb.size
  simp only [World.size_alloc] at hz
  have g0 : 2 < w.heap.size := HG.out.1
  have g1 : w.cell? ⟨2, 6, none⟩ = some (.int .i64 1000000) := HG.out.2 6 (by omega)
  obtain ⟨W, hW⟩ : ∃ W, W = (w2.setCell ⟨w.heap.size, 0, none⟩ (.int .i64 d)).setCell ⟨w.heap.size, 1, none⟩ (.int .i64 0) := ⟨_, rfl⟩
  have e0 : W.cell? ⟨w.heap.size, 0, none⟩ = some (.int .i64 d) := by rw [hW, cset_off (by decide), cset_same (u := .int .i64 d)]; rw [hc _ _ (by simp; omega)]; go_simp
  have e1 : W.cell? ⟨w.heap.size, 1, none⟩ = some (.int .i64 0) := by rw [hW, cset_same (u := .int .i64 0)]; rw [cset_off (by decide), hc _ _ (by simp; omega)]; go_simp
  have hbW : Below w.heap.size w W := by rw [hW]; exact ((bthen (below2 _ _ _) hb).setCell (by simp) _).setCell (by simp) _
  have e2 : W.cell? ⟨2, 6, none⟩ = some (.int .i64 1000000) := (olds hbW _ _ g0).trans g1
  have e3 : W.cell? ⟨w.heap.size + 1, 0, none⟩ = some (.bool false) := by rw [hW]; go_simp
  have e4 : W.cell? ⟨w.heap.size + 1, 1, none⟩ = some (.int .u64 0) := by rw [hW]; go_simp
  have e5 : W.cell? ⟨w.heap.size + 1, 2, none⟩ = some (.int .u64 0) := by rw [hW]; go_simp
  have f3 : ∀ o, W.frozen? ⟨w.heap.size + 1, o, none⟩ = false := by intro o; rw [hW]; go_simp
  have z1 : w.heap.size + 1 < W.heap.size := by rw [hW]; simp; omega
  have z2 : 2 < W.heap.size := by omega
  have z3 : w.heap.size < W.heap.size := by omega
  rw [← hW]
  have HW := Lib.hid hW
  clear hW hc hf hb
  have w0 : IntKind.i64.wrap (6 - 0) = 6 := by decide
  have w1 : IntKind.i64.wrap 6 = 6 := by decide
  go_region_held3 (fun w' => w'.cell? ⟨w.heap.size, 0, none⟩ = some (.int .i64 d) ∧ w'.cell? ⟨w.heap.size, 1, none⟩ = some (.int .i64 0) ∧ w'.cell? ⟨2, 6, none⟩ = some (.int .i64 1000000))
    (first | exact ⟨e0, e1, e2⟩ | (have hq := olds ‹Below W.heap.size W _›; exact ⟨(hq _ _ z3).trans e0, (hq _ _ z3).trans e1, (hq _ _ z2).trans e2⟩) | (have hq := olds ‹Below W.heap.size W _›; simp only [cset_block (show w.heap.size + 1 ≠ w.heap.size by omega), cset_block (show w.heap.size + 1 ≠ 2 by omega)]; exact ⟨(hq _ _ z3).trans e0, (hq _ _ z3).trans e1, (hq _ _ z2).trans e2⟩))
    (first | (go_at_call 165; refine (HM.out _).mono ?_; rintro e w3 ⟨rfl, hb3'⟩; have hb3 := bdrew hb3'; have hz3 := hb3.size; (first | (have hl3 : W.heap.size + 1 < w3.heap.size := (by have := hb3'.size; simp at this; omega); have hm3 : W.heap.size < w3.heap.size := (by omega)) | (have hl3 : W.heap.size < w3.heap.size := (by have := hb3'.size; simp at this; omega)) | skip); clear hb3'; have hc3 := olds hb3; have hf3 := oldf hb3))
  go_wp2
  have c0 := (hc3 _ 0 z1).trans e3
  have c1 := (hc3 _ 1 z1).trans e4
  have c2 := (hc3 _ 2 z1).trans e5
  exact bodyPost_ret (v := .agg #[.bool false, .int .u64 0, .int .u64 (d * 1000000)]) (by simp [results, Tryz.results148, go_sem, c0, c1, c2]) rfl
    ⟨rfl, (((bthen hbW hb3).setCell (by simp) _).setCell (by simp) _).setCell (by simp) _⟩
set_option maxHeartbeats 400000 in
theorem cmpOr2 (a b : Int) (g cap : Nat) (w : World) (h0 : w.cell? ⟨g, 0, none⟩ = some (.int .i64 a)) (h1 : w.cell? ⟨g, 1, none⟩ = some (.int .i64 b)) :
    Calls Tryz.prog 149 #[.slice (some ⟨g, 0, none⟩) 2 cap] w fun e w' => e = .returned (.int .i64 (orI a b)) ∧ w = w' := by
  go_enter Tryz.func149, Tryz.ntmps149
  go_wp2
  refine wp_loop_rounds 3 ?_; rw [rounds_succ]
  go_wp2
  · go_ret
    exact ⟨ret_int (by unfold orI; simp_all), rfl⟩
  · rw [rounds_succ]
    go_wp2
    · go_ret
      exact ⟨ret_int (by unfold orI; simp_all), rfl⟩
    · rw [rounds_succ]
      go_wp2
      go_ret
      exact ⟨ret_int (by unfold orI; simp_all), rfl⟩
theorem cmp3_mul (a b : Int) : cmp3 (a * 1000000) (b * 1000000) = cmp3 a b := by unfold cmp3; (repeat' split) <;> omega
end Go.Proofs.YtoiemkifgdnhaaaGreatDoor
namespace Go.Proofs.YtoiemkifgdnhaaaGreatDoor
open Go Go.RowKit
set_option maxHeartbeats 400000 in
theorem xRight (d : Int) (w : World) (h0 : 0 ≤ d) (h1 : d ≤ 1000) :
    Calls Tryz.prog 121 #[.agg #[.int .i64 d, .int .i64 0]] w fun e w' => e = .returned (.bool true) ∧ w.alloc (.cells #[.int .i64 d, .int .i64 0] 44) = w' := by
  have h2 : (-1000000000000000 : Int) ≤ d := by omega
  have h3 : d ≤ (1000000000000000 : Int) := by omega
  go_enter Tryz.func121, Tryz.ntmps121
  go_wp2
  go_ret
  exact ⟨rfl, rfl⟩
set_option maxHeartbeats 400000 in
theorem xKnown (d : Int) (w : World) (h0 : 0 ≤ d) (h1 : d ≤ 1000) :
    Calls Tryz.prog 164 #[.agg #[.int .i64 d, .int .i64 0]] w fun e w' => e = .returned (.agg #[.int .i64 d, .int .i64 0]) ∧
      ((w.alloc (.cells #[.int .i64 d, .int .i64 0] 44)).alloc (.cells #[.int .i64 d, .int .i64 0] 44)).alloc (.cells #[.int .i64 d, .int .i64 0] 44) = w' := by
  go_enter Tryz.func164, Tryz.ntmps164
  go_wp2_with (go_at_call 121; refine (xRight _ _ (by omega) (by omega)).mono ?_; rintro e w2 ⟨rfl, rfl⟩)
  exact bodyPost_ret (v := .agg #[.int .i64 d, .int .i64 0]) (by simp [results, Tryz.results164, go_sem]) rfl ⟨rfl, rfl⟩
set_option maxRecDepth 100000 in
set_option maxHeartbeats 400000 in
theorem xProduct (d : Int) (h0 : d = 1 ∨ d = 2 ∨ d = 3 ∨ d = 5 ∨ d = 7) (w : World) :
    Calls Tryz.prog 165 #[.int .i64 d, .int .i64 1000000] w fun e w' => e = .returned (.agg #[.bool false, .int .u64 0, .int .u64 (d * 1000000)]) ∧
      w.alloc (.cells #[.bool false, .int .u64 0, .int .u64 (d * 1000000)] 152) = w' := by
  have HM := Lib.hid (fun w => mul64_small d h0 w)
  have h1 : 1 ≤ d := by omega
  have h2 : d ≤ 7 := by omega
  have h3 : 0 ≤ d := by omega
  have h4 : decide (d < 0) = false := by simpa using h3
  clear h0
  go_enter Tryz.func165, Tryz.ntmps165
  go_wp2_with (go_at_call 173; refine (HM.out _).mono ?_; rintro e w1 ⟨rfl, rfl⟩)
  exact bodyPost_ret (v := .agg #[.bool false, .int .u64 0, .int .u64 (d * 1000000)]) (by simp [results, Tryz.results165, go_sem, h3]) rfl ⟨rfl, rfl⟩
set_option maxRecDepth 100000 in
set_option maxHeartbeats 1000000 in
theorem xUnits (d : Int) (h0 : d = 1 ∨ d = 2 ∨ d = 3 ∨ d = 5 ∨ d = 7) (w : World) (hG : G w) :
    Calls Tryz.prog 148 #[.agg #[.int .i64 d, .int .i64 0]] w fun e w' => e = .returned (.agg #[.bool false, .int .u64 0, .int .u64 (d * 1000000)]) ∧
      ((((((w.alloc (.cells #[.int .i64 d, .int .i64 0] 44)).alloc (.cells #[.bool false, .int .u64 0, .int .u64 (d * 1000000)] 152)).alloc
    (.cells #[.int .i64 d, .int .i64 0] 44)).alloc (.cells #[.int .i64 d, .int .i64 0] 44)).alloc (.cells #[.int .i64 d, .int .i64 0] 44)).alloc
    (.cells #[.bool false, .int .u64 0, .int .u64 (d * 1000000)] 152)).drew = w' := by
  have HM := Lib.hid (fun w => xProduct d h0 w)
  have g0 : 2 < w.heap.size := hG.1
  have g1 : w.cell? ⟨2, 6, none⟩ = some (.int .i64 1000000) := hG.2 6 (by omega)
  have h1 : 1 ≤ d := by omega
  have h2 : d ≤ 7 := by omega
  clear h0 hG
  go_enter Tryz.func148, Tryz.ntmps148
  go_wp2_with (go_at_call 164; refine (xKnown _ _ (by omega) (by omega)).mono ?_; rintro e w2 ⟨rfl, rfl⟩)
  have w0 : IntKind.i64.wrap (6 - 0) = 6 := by decide
  have w1 : IntKind.i64.wrap 6 = 6 := by decide
  have q2 : ∀ n : Nat, n < n + 1 + 1 := fun n => by omega
  have q3 : ∀ n : Nat, n < n + 1 + 1 + 1 := fun n => by omega
  have m0 : (((((w.alloc (.cells #[.int .i64 d, .int .i64 0] 44)).alloc (.cells #[.bool false, .int .u64 0, .int .u64 0] 152)).alloc (.cells #[.int .i64 d, .int .i64 0] 44)).alloc (.cells #[.int .i64 d, .int .i64 0] 44)).alloc (.cells #[.int .i64 d, .int .i64 0] 44)).drew.cell? ⟨2, 6, none⟩ = some (.int .i64 1000000) := (olds (B := w.heap.size) (w := w) (by repeat (first | with_reducible exact Below.refl _ _ | with_reducible assumption | with_reducible refine Below.drew ?_ | with_reducible refine Below.alloc ?_ (by first | omega | (simp; done) | (simp; omega)) _ | with_reducible refine Below.setCell ?_ (by first | omega | (simp; done) | (simp; omega)) _)) _ _ g0).trans g1
  have a0 : (((((w.alloc (.cells #[.int .i64 d, .int .i64 0] 44)).alloc (.cells #[.bool false, .int .u64 0, .int .u64 0] 152)).alloc (.cells #[.int .i64 d, .int .i64 0] 44)).alloc (.cells #[.int .i64 d, .int .i64 0] 44)).alloc (.cells #[.int .i64 d, .int .i64 0] 44)).drew.cell? ⟨w.heap.size, 0, none⟩ = some (.int .i64 d) := by go_simp
  have b0 : (((((w.alloc (.cells #[.int .i64 d, .int .i64 0] 44)).alloc (.cells #[.bool false, .int .u64 0, .int .u64 0] 152)).alloc (.cells #[.int .i64 d, .int .i64 0] 44)).alloc (.cells #[.int .i64 d, .int .i64 0] 44)).alloc (.cells #[.int .i64 d, .int .i64 0] 44)).drew.cell? ⟨w.heap.size, 1, none⟩ = some (.int .i64 0) := by go_simp
  have m1 : ((((((w.alloc (.cells #[.int .i64 d, .int .i64 0] 44)).alloc (.cells #[.bool false, .int .u64 0, .int .u64 0] 152)).alloc (.cells #[.int .i64 d, .int .i64 0] 44)).alloc (.cells #[.int .i64 d, .int .i64 0] 44)).alloc (.cells #[.int .i64 d, .int .i64 0] 44)).alloc (.cells #[.bool false, .int .u64 0, .int .u64 (d * 1000000)] 152)).drew.cell? ⟨2, 6, none⟩ = some (.int .i64 1000000) := (olds (B := w.heap.size) (w := w) (by repeat (first | with_reducible exact Below.refl _ _ | with_reducible assumption | with_reducible refine Below.drew ?_ | with_reducible refine Below.alloc ?_ (by first | omega | (simp; done) | (simp; omega)) _ | with_reducible refine Below.setCell ?_ (by first | omega | (simp; done) | (simp; omega)) _)) _ _ g0).trans g1
  have a1 : ((((((w.alloc (.cells #[.int .i64 d, .int .i64 0] 44)).alloc (.cells #[.bool false, .int .u64 0, .int .u64 0] 152)).alloc (.cells #[.int .i64 d, .int .i64 0] 44)).alloc (.cells #[.int .i64 d, .int .i64 0] 44)).alloc (.cells #[.int .i64 d, .int .i64 0] 44)).alloc (.cells #[.bool false, .int .u64 0, .int .u64 (d * 1000000)] 152)).drew.cell? ⟨w.heap.size, 0, none⟩ = some (.int .i64 d) := by go_simp
  have b1 : ((((((w.alloc (.cells #[.int .i64 d, .int .i64 0] 44)).alloc (.cells #[.bool false, .int .u64 0, .int .u64 0] 152)).alloc (.cells #[.int .i64 d, .int .i64 0] 44)).alloc (.cells #[.int .i64 d, .int .i64 0] 44)).alloc (.cells #[.int .i64 d, .int .i64 0] 44)).alloc (.cells #[.bool false, .int .u64 0, .int .u64 (d * 1000000)] 152)).drew.cell? ⟨w.heap.size, 1, none⟩ = some (.int .i64 0) := by go_simp
  have m2 : ((((((w.alloc (.cells #[.int .i64 d, .int .i64 0] 44)).alloc (.cells #[.bool false, .int .u64 0, .int .u64 (d * 1000000)] 152)).alloc (.cells #[.int .i64 d, .int .i64 0] 44)).alloc (.cells #[.int .i64 d, .int .i64 0] 44)).alloc (.cells #[.int .i64 d, .int .i64 0] 44)).alloc (.cells #[.bool false, .int .u64 0, .int .u64 (d * 1000000)] 152)).drew.cell? ⟨2, 6, none⟩ = some (.int .i64 1000000) := (olds (B := w.heap.size) (w := w) (by repeat (first | with_reducible exact Below.refl _ _ | with_reducible assumption | with_reducible refine Below.drew ?_ | with_reducible refine Below.alloc ?_ (by first | omega | (simp; done) | (simp; omega)) _ | with_reducible refine Below.setCell ?_ (by first | omega | (simp; done) | (simp; omega)) _)) _ _ g0).trans g1
  have a2 : ((((((w.alloc (.cells #[.int .i64 d, .int .i64 0] 44)).alloc (.cells #[.bool false, .int .u64 0, .int .u64 (d * 1000000)] 152)).alloc (.cells #[.int .i64 d, .int .i64 0] 44)).alloc (.cells #[.int .i64 d, .int .i64 0] 44)).alloc (.cells #[.int .i64 d, .int .i64 0] 44)).alloc (.cells #[.bool false, .int .u64 0, .int .u64 (d * 1000000)] 152)).drew.cell? ⟨w.heap.size, 0, none⟩ = some (.int .i64 d) := by go_simp
  have b2 : ((((((w.alloc (.cells #[.int .i64 d, .int .i64 0] 44)).alloc (.cells #[.bool false, .int .u64 0, .int .u64 (d * 1000000)] 152)).alloc (.cells #[.int .i64 d, .int .i64 0] 44)).alloc (.cells #[.int .i64 d, .int .i64 0] 44)).alloc (.cells #[.int .i64 d, .int .i64 0] 44)).alloc (.cells #[.bool false, .int .u64 0, .int .u64 (d * 1000000)] 152)).drew.cell? ⟨w.heap.size, 1, none⟩ = some (.int .i64 0) := by go_simp
  go_region_held3 (fun w' => w'.cell? ⟨w.heap.size, 0, none⟩ = some (.int .i64 d) ∧ w'.cell? ⟨w.heap.size, 1, none⟩ = some (.int .i64 0) ∧ w'.cell? ⟨2, 6, none⟩ = some (.int .i64 1000000))
    (first | exact ⟨a0, b0, m0⟩ | exact ⟨a1, b1, m1⟩ | exact ⟨a2, b2, m2⟩)
    (first | (go_at_call 165; refine (HM.out _).mono ?_; rintro e w3 ⟨rfl, rfl⟩))
  go_wp2
  exact bodyPost_ret (v := .agg #[.bool false, .int .u64 0, .int .u64 (d * 1000000)]) (by simp [results, Tryz.results148, go_sem]) rfl ⟨rfl, rfl⟩
set_option maxRecDepth 100000 in
set_option maxHeartbeats 40000000 in
theorem decCmp (d f : Int) (h0 : d = 1 ∨ d = 2 ∨ d = 3 ∨ d = 5 ∨ d = 7) (h1 : f = 1 ∨ f = 2 ∨ f = 3 ∨ f = 5 ∨ f = 7) (w : World) (hG : G w) :
    Calls Tryz.prog 123 #[.agg #[.int .i64 d, .int .i64 0], .agg #[.int .i64 f, .int .i64 0]] w fun e w' => e = .returned (.int .i64 (cmp3 d f)) ∧ Below w.heap.size w w' := by
  have HM := Lib.hid (fun w hG => xUnits d h0 w hG)
  have HN := Lib.hid (fun w hG => xUnits f h1 w hG)
  have HG := Lib.hid hG; clear hG
  have h1 : 1 ≤ d := by omega
  have h2 : d ≤ 7 := by omega
  have h3 : 1 ≤ f := by omega
  have h4 : f ≤ 7 := by omega
  clear h0 h1
  go_enter Tryz.func123, Tryz.ntmps123
  go_upto_region 1 with fail
  go_cut [5, 6] (fun s5 s6 wx => ∃ g5 g6 : Nat, s5 = .pointer (some ⟨g5, 0, none⟩) ∧ s6 = .pointer (some ⟨g6, 0, none⟩) ∧
     wx.cell? ⟨g5, 0, none⟩ = some (.bool false) ∧ wx.cell? ⟨g5, 1, none⟩ = some (.int .u64 0) ∧ wx.cell? ⟨g5, 2, none⟩ = some (.int .u64 (d * 1000000)) ∧
     wx.cell? ⟨g6, 0, none⟩ = some (.bool false) ∧ wx.cell? ⟨g6, 1, none⟩ = some (.int .u64 0) ∧ wx.cell? ⟨g6, 2, none⟩ = some (.int .u64 (f * 1000000)) ∧ Below w.heap.size w wx)
  case first =>
    have q2 : ∀ n : Nat, n < n + 1 + 1 := fun n => by omega
    go_region_held3 (fun w' => w'.cell? ⟨w.heap.size, 0, none⟩ = some (.int .i64 d) ∧ w'.cell? ⟨w.heap.size, 1, none⟩ = some (.int .i64 0) ∧ w'.cell? ⟨w.heap.size + 1, 0, none⟩ = some (.int .i64 f) ∧ w'.cell? ⟨w.heap.size + 1, 1, none⟩ = some (.int .i64 0) ∧ Below w.heap.size w w')
      (first | exact ⟨by go_simp, by go_simp, by go_simp, by go_simp, (by repeat (first | with_reducible exact Below.refl _ _ | with_reducible assumption | with_reducible refine Below.drew ?_ | with_reducible refine Below.alloc ?_ (by first | omega | (simp; done) | (simp; omega)) _ | with_reducible refine Below.setCell ?_ (by first | omega | (simp; done) | (simp; omega)) _))⟩)
      (first
       | (go_at_call 148; with_reducible (refine (HM.out _ ?_).mono ?_); (exact HG.out.mono (by repeat (first | with_reducible exact Below.refl _ _ | with_reducible assumption | with_reducible refine Below.drew ?_ | with_reducible refine Below.alloc ?_ (by first | omega | (simp; done) | (simp; omega)) _ | with_reducible refine Below.setCell ?_ (by first | omega | (simp; done) | (simp; omega)) _))); rintro e w3 ⟨rfl, rfl⟩)
       | (go_at_call 148; with_reducible (refine (HN.out _ ?_).mono ?_); (exact HG.out.mono (by repeat (first | with_reducible exact Below.refl _ _ | with_reducible assumption | with_reducible refine Below.drew ?_ | with_reducible refine Below.alloc ?_ (by first | omega | (simp; done) | (simp; omega)) _ | with_reducible refine Below.setCell ?_ (by first | omega | (simp; done) | (simp; omega)) _))); rintro e w3 ⟨rfl, rfl⟩))
    all_goals (go_wp2_with fail; go_meet)
    all_goals exact ⟨_, _, rfl, rfl, by go_simp, by go_simp, by go_simp, by go_simp, by go_simp, by go_simp, (by repeat (first | with_reducible exact Below.refl _ _ | with_reducible assumption | with_reducible refine Below.drew ?_ | with_reducible refine Below.alloc ?_ (by first | omega | (simp; done) | (simp; omega)) _ | with_reducible refine Below.setCell ?_ (by first | omega | (simp; done) | (simp; omega)) _))⟩
  case rest =>
    obtain ⟨g5, g6, rfl, rfl, c0, c1, c2, c3, c4, c5, hbel⟩ := hcut
    have hg5 : g5 < wc.heap.size := block_lt_of_cell c0
    have hg6 : g6 < wc.heap.size := block_lt_of_cell c3
    have hor : orI (cmp3 0 0) (cmp3 (d * 1000000) (f * 1000000)) = cmp3 d f := by rw [cmp3_mul]; rfl
    have HOR := Lib.hid hor; clear hor
    clear HM HN
    have hOR : ∀ X : World, X.cell? ⟨wc.heap.size, 0, none⟩ = some (.int .i64 (cmp3 0 0)) → X.cell? ⟨wc.heap.size, 1, none⟩ = some (.int .i64 (cmp3 (d * 1000000) (f * 1000000))) →
        Calls Tryz.prog 149 #[.slice (some ⟨wc.heap.size, 0, none⟩) 2 2] X fun e w' => e = .returned (.int .i64 (cmp3 d f)) ∧ X = w' := fun X h0 h1 => by
      rw [← HOR.out]; exact cmpOr2 _ _ _ _ X h0 h1
    have k0 : (wc.alloc (.cells #[.int .i64 (cmp3 0 0), .int .i64 (cmp3 (d * 1000000) (f * 1000000))] 3)).drew.cell? ⟨wc.heap.size, 0, none⟩ = some (.int .i64 (cmp3 0 0)) := by go_simp
    have k1 : (wc.alloc (.cells #[.int .i64 (cmp3 0 0), .int .i64 (cmp3 (d * 1000000) (f * 1000000))] 3)).drew.cell? ⟨wc.heap.size, 1, none⟩ = some (.int .i64 (cmp3 (d * 1000000) (f * 1000000))) := by go_simp
    have HOR2 := Lib.hid (hOR _ k0 k1); clear hOR k0 k1
    go_wp2_with fail
    go_region_held3 (fun w' => w'.cell? ⟨g5, 1, none⟩ = some (.int .u64 0) ∧ w'.cell? ⟨g5, 2, none⟩ = some (.int .u64 (d * 1000000)) ∧ w'.cell? ⟨g6, 1, none⟩ = some (.int .u64 0) ∧ w'.cell? ⟨g6, 2, none⟩ = some (.int .u64 (f * 1000000)))
      (first | exact ⟨by go_simp, by go_simp, by go_simp, by go_simp⟩)
      (first
       | (go_at_call 150; refine (compare_u64 _ _ _).mono ?_; rintro e w3 ⟨rfl, rfl⟩)
       | (go_at_call 149; refine HOR2.out.mono ?_; rintro e w3 ⟨rfl, rfl⟩))
    have hz := hbel.size
    all_goals go_wp2
    all_goals go_ret
    all_goals exact ⟨rfl, (by repeat (first | with_reducible exact Below.refl _ _ | with_reducible assumption | with_reducible refine Below.drew ?_ | with_reducible refine Below.alloc ?_ (by first | omega | (simp; done) | (simp; omega)) _ | with_reducible refine Below.setCell ?_ (by first | omega | (simp; done) | (simp; omega)) _))⟩
end Go.Proofs.YtoiemkifgdnhaaaGreatDoor
