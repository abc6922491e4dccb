import Derived.Test.YtjpckmpeahinkaaFa
import Derived.Test.YtjpckmpeahinkaaProg
set_option linter.unusedSimpArgs false
set_option linter.unusedVariables false
namespace Go.Proofs.Ytjpckmpeahinkaa
open Go.RowKit
def dec_a3_i : List TR → Option ((Int × Int × Int) × Int)
  | [.v (.agg ⟨[.int .i64 x0_0, .int .i64 x0_1, .int .i64 x0_2]⟩), .v (.int .i64 x1)] => some ((x0_0, x0_1, x0_2), x1)
  | _ => none
def enc_a3_i : (Int × Int × Int) × Int → List TR
  | ((x0_0, x0_1, x0_2), x1) => [.v (.agg ⟨[.int .i64 x0_0, .int .i64 x0_1, .int .i64 x0_2]⟩), .v (.int .i64 x1)]
theorem de_a3_i (rs : List TR) (x : (Int × Int × Int) × Int) (h : dec_a3_i rs = some x) : rs = enc_a3_i x := by
  unfold dec_a3_i at h
  split at h
  · simp only [Option.some.injEq] at h
    subst h
    rfl
  · cases h
def dec_l47_2_i : List TR → Option ((Nat × List Int) × Int)
  | [.s 47 2 n0 (.ints x0), .v (.int .i64 x1)] => some ((n0, x0), x1)
  | _ => none
def enc_l47_2_i : (Nat × List Int) × Int → List TR
  | ((n0, x0), x1) => [.s 47 2 n0 (.ints x0), .v (.int .i64 x1)]
theorem de_l47_2_i (rs : List TR) (x : (Nat × List Int) × Int) (h : dec_l47_2_i rs = some x) : rs = enc_l47_2_i x := by
  unfold dec_l47_2_i at h
  split at h
  · simp only [Option.some.injEq] at h
    subst h
    rfl
  · cases h
def dec_a2_i : List TR → Option ((Int × Int) × Int)
  | [.v (.agg ⟨[.int .i64 x0_0, .int .i64 x0_1]⟩), .v (.int .i64 x1)] => some ((x0_0, x0_1), x1)
  | _ => none
def enc_a2_i : (Int × Int) × Int → List TR
  | ((x0_0, x0_1), x1) => [.v (.agg ⟨[.int .i64 x0_0, .int .i64 x0_1]⟩), .v (.int .i64 x1)]
theorem de_a2_i (rs : List TR) (x : (Int × Int) × Int) (h : dec_a2_i rs = some x) : rs = enc_a2_i x := by
  unfold dec_a2_i at h
  split at h
  · simp only [Option.some.injEq] at h
    subst h
    rfl
  · cases h
def clo_a2_b (k : (Int × Int) → Bool) (h : (Int × Int) → Bool) : List Value → Option (Bool × Value)
  | [.agg ⟨[.int .i64 a0_0, .int .i64 a0_1]⟩] => some (k (a0_0, a0_1), .bool (h (a0_0, a0_1)))
  | _ => none
theorem clo_a2_b_ok (g : List Value → Option (Bool × Value)) : ∀ args r, clo_a2_b (fun a0 => okV (g [.agg ⟨[.int .i64 a0.1, .int .i64 a0.2]⟩])) (fun a0 => boolV (g [.agg ⟨[.int .i64 a0.1, .int .i64 a0.2]⟩])) args = some (true, r) → g args = some (true, r) := by
  intro args r h
  unfold clo_a2_b at h
  split at h
  · simp only [Option.some.injEq, Prod.mk.injEq] at h
    obtain ⟨h1, rfl⟩ := h
    exact okV_some h1
  · cases h
def S_s_PoleOf : Sums := ⟨tblS [(53, run_s_l08Code), (83, run_s_l01Lines), (54, run_s_l08Determinant), (72, run_s_l08Polar)], tblM []⟩
theorem SO_s_PoleOf : SumsOK Try.prog S_s_PoleOf := ⟨tblS_ok ⟨⟨Try.call53, sound_s_l08Code⟩, ⟨Try.call83, sound_s_l01Lines⟩, ⟨Try.call54, sound_s_l08Determinant⟩, ⟨Try.call72, sound_s_l08Polar⟩, True.intro⟩, tblM_ok True.intro⟩
def T_s_PoleOf_2 (p : Int) (k : Int × Int × Int × Int × Int × Int) (l : Int × Int × Int) (x : Int) : Tab := ⟨[.val (.int .i64 p), .val (.agg ⟨[.int .i64 k.1, .int .i64 k.2.1, .int .i64 k.2.2.1, .int .i64 k.2.2.2.1, .int .i64 k.2.2.2.2.1, .int .i64 k.2.2.2.2.2]⟩), .val (.agg ⟨[.int .i64 l.1, .int .i64 l.2.1, .int .i64 l.2.2]⟩), .junk, .ptr 16 0, .ptr 20 0, .ptr 24 0, .val (.int .i64 0), .val (.int .i64 (s_l01Lines p [l])), .val (.int .i64 x), .junk, .junk, .junk, .val (.int .i64 p), .val (.agg ⟨[.int .i64 k.1, .int .i64 k.2.1, .int .i64 k.2.2.1, .int .i64 k.2.2.2.1, .int .i64 k.2.2.2.2.1, .int .i64 k.2.2.2.2.2]⟩), .val (.int .i64 (s_l08Code p k)), .val (.int .i64 (s_l08Code p k)), .val (.bool ((s_l08Code p k) == 0)), .val (.int .i64 p), .val (.agg ⟨[.int .i64 l.1, .int .i64 l.2.1, .int .i64 l.2.2]⟩), .row 80, .val (.int .i64 (s_l01Lines p [l])), .val (.int .i64 (s_l01Lines p [l])), .val (.bool ((s_l01Lines p [l]) == 0)), .val (.bool true), .val (.int .i64 p), .val (.agg ⟨[.int .i64 k.1, .int .i64 k.2.1, .int .i64 k.2.2.1, .int .i64 k.2.2.2.1, .int .i64 k.2.2.2.2.1, .int .i64 k.2.2.2.2.2]⟩), .val (.int .i64 (s_l08Determinant p k)), .val (.bool ((s_l08Determinant p k) == 0)), .val (.bool ((s_l08Determinant p k) == 0)), .val (.int .i64 (s_l01Lines p [l])), .val (.bool ((s_l01Lines p [l]) != 0)), .junk, .junk, .junk, .junk, .junk, .junk, .junk, .junk, .junk, .junk, .junk, .junk, .junk, .junk, .junk, .junk, .junk, .junk, .junk, .junk, .junk, .junk, .junk, .junk, .junk, .junk, .junk, .junk, .junk, .junk, .junk], [(16, .box 25 [.val (.int .i64 k.1), .val (.int .i64 k.2.1), .val (.int .i64 k.2.2.1), .val (.int .i64 k.2.2.2.1), .val (.int .i64 k.2.2.2.2.1), .val (.int .i64 k.2.2.2.2.2)]), (20, .box 44 [.val (.int .i64 l.1), .val (.int .i64 l.2.1), .val (.int .i64 l.2.2)]), (24, .box 47 [.val (.int .i64 0), .val (.int .i64 0)]), (80, .row 44 3 1 (.ints [l.1, l.2.1, l.2.2]))]⟩
def T_s_PoleOf_3 (p : Int) (k : Int × Int × Int × Int × Int × Int) (l : Int × Int × Int) (x : Int) (y : Int) : Tab := ⟨[.val (.int .i64 p), .val (.agg ⟨[.int .i64 k.1, .int .i64 k.2.1, .int .i64 k.2.2.1, .int .i64 k.2.2.2.1, .int .i64 k.2.2.2.2.1, .int .i64 k.2.2.2.2.2]⟩), .val (.agg ⟨[.int .i64 l.1, .int .i64 l.2.1, .int .i64 l.2.2]⟩), .junk, .ptr 16 0, .ptr 20 0, .ptr 24 0, .val (.int .i64 0), .val (.int .i64 (s_l01Lines p [l])), .val (.int .i64 x), .val (.int .i64 y), .junk, .junk, .val (.int .i64 p), .val (.agg ⟨[.int .i64 k.1, .int .i64 k.2.1, .int .i64 k.2.2.1, .int .i64 k.2.2.2.1, .int .i64 k.2.2.2.2.1, .int .i64 k.2.2.2.2.2]⟩), .val (.int .i64 (s_l08Code p k)), .val (.int .i64 (s_l08Code p k)), .val (.bool ((s_l08Code p k) == 0)), .val (.int .i64 p), .val (.agg ⟨[.int .i64 l.1, .int .i64 l.2.1, .int .i64 l.2.2]⟩), .row 80, .val (.int .i64 (s_l01Lines p [l])), .val (.int .i64 (s_l01Lines p [l])), .val (.bool ((s_l01Lines p [l]) == 0)), .val (.bool true), .val (.int .i64 p), .val (.agg ⟨[.int .i64 k.1, .int .i64 k.2.1, .int .i64 k.2.2.1, .int .i64 k.2.2.2.1, .int .i64 k.2.2.2.2.1, .int .i64 k.2.2.2.2.2]⟩), .val (.int .i64 (s_l08Determinant p k)), .val (.bool ((s_l08Determinant p k) == 0)), .val (.bool ((s_l08Determinant p k) == 0)), .val (.int .i64 (s_l01Lines p [l])), .val (.bool ((s_l01Lines p [l]) != 0)), .junk, .junk, .val (.int .i64 x), .val (.int .i64 p), .val (.bool (decide (x < p))), .junk, .junk, .junk, .junk, .junk, .junk, .junk, .junk, .junk, .junk, .junk, .junk, .junk, .junk, .junk, .junk, .junk, .junk, .junk, .junk, .junk, .junk, .junk, .junk, .junk, .junk], [(16, .box 25 [.val (.int .i64 k.1), .val (.int .i64 k.2.1), .val (.int .i64 k.2.2.1), .val (.int .i64 k.2.2.2.1), .val (.int .i64 k.2.2.2.2.1), .val (.int .i64 k.2.2.2.2.2)]), (20, .box 44 [.val (.int .i64 l.1), .val (.int .i64 l.2.1), .val (.int .i64 l.2.2)]), (24, .box 47 [.val (.int .i64 0), .val (.int .i64 0)]), (80, .row 44 3 1 (.ints [l.1, l.2.1, l.2.2]))]⟩
def T_s_PoleOf_6 (p : Int) (k : Int × Int × Int × Int × Int × Int) (l : Int × Int × Int) (x : Int) : Tab := ⟨[.val (.int .i64 p), .val (.agg ⟨[.int .i64 k.1, .int .i64 k.2.1, .int .i64 k.2.2.1, .int .i64 k.2.2.2.1, .int .i64 k.2.2.2.2.1, .int .i64 k.2.2.2.2.2]⟩), .val (.agg ⟨[.int .i64 l.1, .int .i64 l.2.1, .int .i64 l.2.2]⟩), .junk, .ptr 16 0, .ptr 20 0, .ptr 24 0, .val (.int .i64 0), .val (.int .i64 (s_l01Lines p [l])), .val (.int .i64 x), .junk, .junk, .junk, .val (.int .i64 p), .val (.agg ⟨[.int .i64 k.1, .int .i64 k.2.1, .int .i64 k.2.2.1, .int .i64 k.2.2.2.1, .int .i64 k.2.2.2.2.1, .int .i64 k.2.2.2.2.2]⟩), .val (.int .i64 (s_l08Code p k)), .val (.int .i64 (s_l08Code p k)), .val (.bool ((s_l08Code p k) == 0)), .val (.int .i64 p), .val (.agg ⟨[.int .i64 l.1, .int .i64 l.2.1, .int .i64 l.2.2]⟩), .row 80, .val (.int .i64 (s_l01Lines p [l])), .val (.int .i64 (s_l01Lines p [l])), .val (.bool ((s_l01Lines p [l]) == 0)), .val (.bool false), .val (undef), .val (undef), .val (undef), .val (undef), .val (.bool false), .val (.int .i64 (s_l01Lines p [l])), .val (.bool ((s_l01Lines p [l]) != 0)), .junk, .junk, .junk, .junk, .junk, .junk, .junk, .junk, .junk, .junk, .junk, .junk, .junk, .junk, .junk, .junk, .junk, .junk, .junk, .junk, .junk, .junk, .junk, .junk, .junk, .junk, .junk, .junk, .junk, .junk, .junk], [(16, .box 25 [.val (.int .i64 k.1), .val (.int .i64 k.2.1), .val (.int .i64 k.2.2.1), .val (.int .i64 k.2.2.2.1), .val (.int .i64 k.2.2.2.2.1), .val (.int .i64 k.2.2.2.2.2)]), (20, .box 44 [.val (.int .i64 l.1), .val (.int .i64 l.2.1), .val (.int .i64 l.2.2)]), (24, .box 47 [.val (.int .i64 0), .val (.int .i64 0)]), (80, .row 44 3 1 (.ints [l.1, l.2.1, l.2.2]))]⟩
def T_s_PoleOf_7 (p : Int) (k : Int × Int × Int × Int × Int × Int) (l : Int × Int × Int) (x : Int) (y : Int) : Tab := ⟨[.val (.int .i64 p), .val (.agg ⟨[.int .i64 k.1, .int .i64 k.2.1, .int .i64 k.2.2.1, .int .i64 k.2.2.2.1, .int .i64 k.2.2.2.2.1, .int .i64 k.2.2.2.2.2]⟩), .val (.agg ⟨[.int .i64 l.1, .int .i64 l.2.1, .int .i64 l.2.2]⟩), .junk, .ptr 16 0, .ptr 20 0, .ptr 24 0, .val (.int .i64 0), .val (.int .i64 (s_l01Lines p [l])), .val (.int .i64 x), .val (.int .i64 y), .junk, .junk, .val (.int .i64 p), .val (.agg ⟨[.int .i64 k.1, .int .i64 k.2.1, .int .i64 k.2.2.1, .int .i64 k.2.2.2.1, .int .i64 k.2.2.2.2.1, .int .i64 k.2.2.2.2.2]⟩), .val (.int .i64 (s_l08Code p k)), .val (.int .i64 (s_l08Code p k)), .val (.bool ((s_l08Code p k) == 0)), .val (.int .i64 p), .val (.agg ⟨[.int .i64 l.1, .int .i64 l.2.1, .int .i64 l.2.2]⟩), .row 80, .val (.int .i64 (s_l01Lines p [l])), .val (.int .i64 (s_l01Lines p [l])), .val (.bool ((s_l01Lines p [l]) == 0)), .val (.bool false), .val (undef), .val (undef), .val (undef), .val (undef), .val (.bool false), .val (.int .i64 (s_l01Lines p [l])), .val (.bool ((s_l01Lines p [l]) != 0)), .junk, .junk, .val (.int .i64 x), .val (.int .i64 p), .val (.bool (decide (x < p))), .junk, .junk, .junk, .junk, .junk, .junk, .junk, .junk, .junk, .junk, .junk, .junk, .junk, .junk, .junk, .junk, .junk, .junk, .junk, .junk, .junk, .junk, .junk, .junk, .junk, .junk], [(16, .box 25 [.val (.int .i64 k.1), .val (.int .i64 k.2.1), .val (.int .i64 k.2.2.1), .val (.int .i64 k.2.2.2.1), .val (.int .i64 k.2.2.2.2.1), .val (.int .i64 k.2.2.2.2.2)]), (20, .box 44 [.val (.int .i64 l.1), .val (.int .i64 l.2.1), .val (.int .i64 l.2.2)]), (24, .box 47 [.val (.int .i64 0), .val (.int .i64 0)]), (80, .row 44 3 1 (.ints [l.1, l.2.1, l.2.2]))]⟩
def T_s_PoleOf_10 (p : Int) (k : Int × Int × Int × Int × Int × Int) (l : Int × Int × Int) (x : Int) : Tab := ⟨[.val (.int .i64 p), .val (.agg ⟨[.int .i64 k.1, .int .i64 k.2.1, .int .i64 k.2.2.1, .int .i64 k.2.2.2.1, .int .i64 k.2.2.2.2.1, .int .i64 k.2.2.2.2.2]⟩), .val (.agg ⟨[.int .i64 l.1, .int .i64 l.2.1, .int .i64 l.2.2]⟩), .junk, .ptr 16 0, .ptr 20 0, .ptr 24 0, .val (.int .i64 0), .val (.int .i64 (s_l08Code p k)), .val (.int .i64 x), .junk, .junk, .junk, .val (.int .i64 p), .val (.agg ⟨[.int .i64 k.1, .int .i64 k.2.1, .int .i64 k.2.2.1, .int .i64 k.2.2.2.1, .int .i64 k.2.2.2.2.1, .int .i64 k.2.2.2.2.2]⟩), .val (.int .i64 (s_l08Code p k)), .val (.int .i64 (s_l08Code p k)), .val (.bool ((s_l08Code p k) == 0)), .junk, .junk, .junk, .junk, .val (.int .i64 (s_l08Code p k)), .val (.bool ((s_l08Code p k) == 0)), .val (.bool true), .val (.int .i64 p), .val (.agg ⟨[.int .i64 k.1, .int .i64 k.2.1, .int .i64 k.2.2.1, .int .i64 k.2.2.2.1, .int .i64 k.2.2.2.2.1, .int .i64 k.2.2.2.2.2]⟩), .val (.int .i64 (s_l08Determinant p k)), .val (.bool ((s_l08Determinant p k) == 0)), .val (.bool ((s_l08Determinant p k) == 0)), .val (.int .i64 (s_l08Code p k)), .val (.bool ((s_l08Code p k) != 0)), .junk, .junk, .junk, .junk, .junk, .junk, .junk, .junk, .junk, .junk, .junk, .junk, .junk, .junk, .junk, .junk, .junk, .junk, .junk, .junk, .junk, .junk, .junk, .junk, .junk, .junk, .junk, .junk, .junk, .junk, .junk], [(16, .box 25 [.val (.int .i64 k.1), .val (.int .i64 k.2.1), .val (.int .i64 k.2.2.1), .val (.int .i64 k.2.2.2.1), .val (.int .i64 k.2.2.2.2.1), .val (.int .i64 k.2.2.2.2.2)]), (20, .box 44 [.val (.int .i64 l.1), .val (.int .i64 l.2.1), .val (.int .i64 l.2.2)]), (24, .box 47 [.val (.int .i64 0), .val (.int .i64 0)])]⟩
def T_s_PoleOf_11 (p : Int) (k : Int × Int × Int × Int × Int × Int) (l : Int × Int × Int) (x : Int) (y : Int) : Tab := ⟨[.val (.int .i64 p), .val (.agg ⟨[.int .i64 k.1, .int .i64 k.2.1, .int .i64 k.2.2.1, .int .i64 k.2.2.2.1, .int .i64 k.2.2.2.2.1, .int .i64 k.2.2.2.2.2]⟩), .val (.agg ⟨[.int .i64 l.1, .int .i64 l.2.1, .int .i64 l.2.2]⟩), .junk, .ptr 16 0, .ptr 20 0, .ptr 24 0, .val (.int .i64 0), .val (.int .i64 (s_l08Code p k)), .val (.int .i64 x), .val (.int .i64 y), .junk, .junk, .val (.int .i64 p), .val (.agg ⟨[.int .i64 k.1, .int .i64 k.2.1, .int .i64 k.2.2.1, .int .i64 k.2.2.2.1, .int .i64 k.2.2.2.2.1, .int .i64 k.2.2.2.2.2]⟩), .val (.int .i64 (s_l08Code p k)), .val (.int .i64 (s_l08Code p k)), .val (.bool ((s_l08Code p k) == 0)), .junk, .junk, .junk, .junk, .val (.int .i64 (s_l08Code p k)), .val (.bool ((s_l08Code p k) == 0)), .val (.bool true), .val (.int .i64 p), .val (.agg ⟨[.int .i64 k.1, .int .i64 k.2.1, .int .i64 k.2.2.1, .int .i64 k.2.2.2.1, .int .i64 k.2.2.2.2.1, .int .i64 k.2.2.2.2.2]⟩), .val (.int .i64 (s_l08Determinant p k)), .val (.bool ((s_l08Determinant p k) == 0)), .val (.bool ((s_l08Determinant p k) == 0)), .val (.int .i64 (s_l08Code p k)), .val (.bool ((s_l08Code p k) != 0)), .junk, .junk, .val (.int .i64 x), .val (.int .i64 p), .val (.bool (decide (x < p))), .junk, .junk, .junk, .junk, .junk, .junk, .junk, .junk, .junk, .junk, .junk, .junk, .junk, .junk, .junk, .junk, .junk, .junk, .junk, .junk, .junk, .junk, .junk, .junk, .junk, .junk], [(16, .box 25 [.val (.int .i64 k.1), .val (.int .i64 k.2.1), .val (.int .i64 k.2.2.1), .val (.int .i64 k.2.2.2.1), .val (.int .i64 k.2.2.2.2.1), .val (.int .i64 k.2.2.2.2.2)]), (20, .box 44 [.val (.int .i64 l.1), .val (.int .i64 l.2.1), .val (.int .i64 l.2.2)]), (24, .box 47 [.val (.int .i64 0), .val (.int .i64 0)])]⟩
def T_s_PoleOf_14 (p : Int) (k : Int × Int × Int × Int × Int × Int) (l : Int × Int × Int) (x : Int) : Tab := ⟨[.val (.int .i64 p), .val (.agg ⟨[.int .i64 k.1, .int .i64 k.2.1, .int .i64 k.2.2.1, .int .i64 k.2.2.2.1, .int .i64 k.2.2.2.2.1, .int .i64 k.2.2.2.2.2]⟩), .val (.agg ⟨[.int .i64 l.1, .int .i64 l.2.1, .int .i64 l.2.2]⟩), .junk, .ptr 16 0, .ptr 20 0, .ptr 24 0, .val (.int .i64 0), .val (.int .i64 (s_l08Code p k)), .val (.int .i64 x), .junk, .junk, .junk, .val (.int .i64 p), .val (.agg ⟨[.int .i64 k.1, .int .i64 k.2.1, .int .i64 k.2.2.1, .int .i64 k.2.2.2.1, .int .i64 k.2.2.2.2.1, .int .i64 k.2.2.2.2.2]⟩), .val (.int .i64 (s_l08Code p k)), .val (.int .i64 (s_l08Code p k)), .val (.bool ((s_l08Code p k) == 0)), .junk, .junk, .junk, .junk, .val (.int .i64 (s_l08Code p k)), .val (.bool ((s_l08Code p k) == 0)), .val (.bool false), .val (undef), .val (undef), .val (undef), .val (undef), .val (.bool false), .val (.int .i64 (s_l08Code p k)), .val (.bool ((s_l08Code p k) != 0)), .junk, .junk, .junk, .junk, .junk, .junk, .junk, .junk, .junk, .junk, .junk, .junk, .junk, .junk, .junk, .junk, .junk, .junk, .junk, .junk, .junk, .junk, .junk, .junk, .junk, .junk, .junk, .junk, .junk, .junk, .junk], [(16, .box 25 [.val (.int .i64 k.1), .val (.int .i64 k.2.1), .val (.int .i64 k.2.2.1), .val (.int .i64 k.2.2.2.1), .val (.int .i64 k.2.2.2.2.1), .val (.int .i64 k.2.2.2.2.2)]), (20, .box 44 [.val (.int .i64 l.1), .val (.int .i64 l.2.1), .val (.int .i64 l.2.2)]), (24, .box 47 [.val (.int .i64 0), .val (.int .i64 0)])]⟩
def T_s_PoleOf_15 (p : Int) (k : Int × Int × Int × Int × Int × Int) (l : Int × Int × Int) (x : Int) (y : Int) : Tab := ⟨[.val (.int .i64 p), .val (.agg ⟨[.int .i64 k.1, .int .i64 k.2.1, .int .i64 k.2.2.1, .int .i64 k.2.2.2.1, .int .i64 k.2.2.2.2.1, .int .i64 k.2.2.2.2.2]⟩), .val (.agg ⟨[.int .i64 l.1, .int .i64 l.2.1, .int .i64 l.2.2]⟩), .junk, .ptr 16 0, .ptr 20 0, .ptr 24 0, .val (.int .i64 0), .val (.int .i64 (s_l08Code p k)), .val (.int .i64 x), .val (.int .i64 y), .junk, .junk, .val (.int .i64 p), .val (.agg ⟨[.int .i64 k.1, .int .i64 k.2.1, .int .i64 k.2.2.1, .int .i64 k.2.2.2.1, .int .i64 k.2.2.2.2.1, .int .i64 k.2.2.2.2.2]⟩), .val (.int .i64 (s_l08Code p k)), .val (.int .i64 (s_l08Code p k)), .val (.bool ((s_l08Code p k) == 0)), .junk, .junk, .junk, .junk, .val (.int .i64 (s_l08Code p k)), .val (.bool ((s_l08Code p k) == 0)), .val (.bool false), .val (undef), .val (undef), .val (undef), .val (undef), .val (.bool false), .val (.int .i64 (s_l08Code p k)), .val (.bool ((s_l08Code p k) != 0)), .junk, .junk, .val (.int .i64 x), .val (.int .i64 p), .val (.bool (decide (x < p))), .junk, .junk, .junk, .junk, .junk, .junk, .junk, .junk, .junk, .junk, .junk, .junk, .junk, .junk, .junk, .junk, .junk, .junk, .junk, .junk, .junk, .junk, .junk, .junk, .junk, .junk], [(16, .box 25 [.val (.int .i64 k.1), .val (.int .i64 k.2.1), .val (.int .i64 k.2.2.1), .val (.int .i64 k.2.2.2.1), .val (.int .i64 k.2.2.2.2.1), .val (.int .i64 k.2.2.2.2.2)]), (20, .box 44 [.val (.int .i64 l.1), .val (.int .i64 l.2.1), .val (.int .i64 l.2.2)]), (24, .box 47 [.val (.int .i64 0), .val (.int .i64 0)])]⟩
def X_s_PoleOf_3 (P : Program) (fu : Nat) (p : Int) (k : Int × Int × Int × Int × Int × Int) (l : Int × Int × Int) (x : Int) (rc2 : Tab → Option ((Int × Int) × Int)) (f : Nat) (y : Int) : Option ((Int × Int) × Int) := loopK (exec P S_s_PoleOf 63 (fuelOf fu []) (Code.sub [1, 1, 1, 1, 1, 0, 1, 0, 0, 1, 0, 0, 1, 0, 0] (bodyF P 40))) f (T_s_PoleOf_3 p k l x y) (kBlock 2 (kBlock 1 (kSeq (fun s => exec P S_s_PoleOf 63 (fuelOf fu []) (Code.sub [1, 1, 1, 1, 1, 0, 1, 0, 0, 1, 1] (bodyF P 40)) s (kLoop rc2 (T_s_PoleOf_2 p k l x) (kBlock 0 (kSeq (fun s => exec P S_s_PoleOf 63 (fuelOf fu []) (Code.sub [1, 1, 1, 1, 1, 1] (bodyF P 40)) s (finT P 40 dec_a2_i)) (finT P 40 dec_a2_i))))) (kLoop rc2 (T_s_PoleOf_2 p k l x) (kBlock 0 (kSeq (fun s => exec P S_s_PoleOf 63 (fuelOf fu []) (Code.sub [1, 1, 1, 1, 1, 1] (bodyF P 40)) s (finT P 40 dec_a2_i)) (finT P 40 dec_a2_i)))))))
def B_s_PoleOf_3 (p : Int) (k : Int × Int × Int × Int × Int × Int) (l : Int × Int × Int) (x : Int) (rec2 : Int → Option ((Int × Int) × Int)) (rec3 : Int → Option ((Int × Int) × Int)) (y : Int) : Option ((Int × Int) × Int) :=
  (if (decide (y < p)) = true then (if (prB p) = true then (if ((s_l08Polar p k (x, y)).2) = true then (if (((s_l08Polar p k (x, y)).1) == l) = true then some ((x, y), 0) else rec3 (wI (y + 1))) else rec3 (wI (y + 1))) else none) else rec2 (wI (x + 1)))
def L_s_PoleOf_3 (fu : Nat) (p : Int) (k : Int × Int × Int × Int × Int × Int) (l : Int × Int × Int) (x : Int) (rec2 : Int → Option ((Int × Int) × Int)) : Nat → Int → Option ((Int × Int) × Int)
  | 0, _ => none
  | f + 1, y => B_s_PoleOf_3 p k l x rec2 (L_s_PoleOf_3 fu p k l x rec2 f) y
theorem loop_s_PoleOf_3 (fu : Nat) (p : Int) (k : Int × Int × Int × Int × Int × Int) (l : Int × Int × Int) (x : Int) (rc2 : Tab → Option ((Int × Int) × Int)) : ∀ (f : Nat) (y : Int), X_s_PoleOf_3 Try.prog fu p k l x rc2 f y = L_s_PoleOf_3 fu p k l x (fun x => rc2 (T_s_PoleOf_2 p k l x)) f y := by
  intro f
  induction f with
  | zero => intros; rfl
  | succ f ih =>
    intro y
    have h1 : X_s_PoleOf_3 Try.prog fu p k l x rc2 (f + 1) y = B_s_PoleOf_3 p k l x (fun x => rc2 (T_s_PoleOf_2 p k l x)) (X_s_PoleOf_3 Try.prog fu p k l x rc2 f) y := by kernel_rfl
    have h2 : X_s_PoleOf_3 Try.prog fu p k l x rc2 f = L_s_PoleOf_3 fu p k l x (fun x => rc2 (T_s_PoleOf_2 p k l x)) f := by funext y; exact ih y
    rw [h1, h2]
    rfl
def X_s_PoleOf_2 (P : Program) (fu : Nat) (p : Int) (k : Int × Int × Int × Int × Int × Int) (l : Int × Int × Int) (f : Nat) (x : Int) : Option ((Int × Int) × Int) := loopK (exec P S_s_PoleOf 63 (fuelOf fu []) (Code.sub [1, 1, 1, 1, 1, 0, 1, 0, 0] (bodyF P 40))) f (T_s_PoleOf_2 p k l x) (kBlock 0 (kSeq (fun s => exec P S_s_PoleOf 63 (fuelOf fu []) (Code.sub [1, 1, 1, 1, 1, 1] (bodyF P 40)) s (finT P 40 dec_a2_i)) (finT P 40 dec_a2_i)))
def B_s_PoleOf_2 (p : Int) (k : Int × Int × Int × Int × Int × Int) (l : Int × Int × Int) (lo3 : Int → Option ((Int × Int) × Int)) (rec2 : Int → Option ((Int × Int) × Int)) (x : Int) : Option ((Int × Int) × Int) :=
  (if (decide (x < p)) = true then lo3 0 else some ((0, 0), 4))
def L_s_PoleOf_2 (fu : Nat) (p : Int) (k : Int × Int × Int × Int × Int × Int) (l : Int × Int × Int) : Nat → Int → Option ((Int × Int) × Int)
  | 0, _ => none
  | f + 1, x => B_s_PoleOf_2 p k l (L_s_PoleOf_3 fu p k l x (L_s_PoleOf_2 fu p k l f) fu) (L_s_PoleOf_2 fu p k l f) x
theorem loop_s_PoleOf_2 (fu : Nat) (p : Int) (k : Int × Int × Int × Int × Int × Int) (l : Int × Int × Int) : ∀ (f : Nat) (x : Int), X_s_PoleOf_2 Try.prog fu p k l f x = L_s_PoleOf_2 fu p k l f x := by
  intro f
  induction f with
  | zero => intros; rfl
  | succ f ih =>
    intro x
    have h1 : X_s_PoleOf_2 Try.prog fu p k l (f + 1) x = B_s_PoleOf_2 p k l (X_s_PoleOf_3 Try.prog fu p k l x (fun t => loopK (exec Try.prog S_s_PoleOf 63 (fuelOf fu []) (Code.sub [1, 1, 1, 1, 1, 0, 1, 0, 0] (bodyF Try.prog 40))) f t (kBlock 0 (kSeq (fun s => exec Try.prog S_s_PoleOf 63 (fuelOf fu []) (Code.sub [1, 1, 1, 1, 1, 1] (bodyF Try.prog 40)) s (finT Try.prog 40 dec_a2_i)) (finT Try.prog 40 dec_a2_i)))) fu) (X_s_PoleOf_2 Try.prog fu p k l f) x := by kernel_rfl
    have h2 : X_s_PoleOf_2 Try.prog fu p k l f = L_s_PoleOf_2 fu p k l f := by funext x; exact ih x
    have c3 : (X_s_PoleOf_3 Try.prog fu p k l x (fun t => loopK (exec Try.prog S_s_PoleOf 63 (fuelOf fu []) (Code.sub [1, 1, 1, 1, 1, 0, 1, 0, 0] (bodyF Try.prog 40))) f t (kBlock 0 (kSeq (fun s => exec Try.prog S_s_PoleOf 63 (fuelOf fu []) (Code.sub [1, 1, 1, 1, 1, 1] (bodyF Try.prog 40)) s (finT Try.prog 40 dec_a2_i)) (finT Try.prog 40 dec_a2_i)))) fu) = L_s_PoleOf_3 fu p k l x (X_s_PoleOf_2 Try.prog fu p k l f) fu := by funext y; exact loop_s_PoleOf_3 fu p k l x (fun t => loopK (exec Try.prog S_s_PoleOf 63 (fuelOf fu []) (Code.sub [1, 1, 1, 1, 1, 0, 1, 0, 0] (bodyF Try.prog 40))) f t (kBlock 0 (kSeq (fun s => exec Try.prog S_s_PoleOf 63 (fuelOf fu []) (Code.sub [1, 1, 1, 1, 1, 1] (bodyF Try.prog 40)) s (finT Try.prog 40 dec_a2_i)) (finT Try.prog 40 dec_a2_i)))) fu y
    rw [h1, c3, h2]
    rfl
def X_s_PoleOf_7 (P : Program) (fu : Nat) (p : Int) (k : Int × Int × Int × Int × Int × Int) (l : Int × Int × Int) (x : Int) (rc6 : Tab → Option ((Int × Int) × Int)) (f : Nat) (y : Int) : Option ((Int × Int) × Int) := loopK (exec P S_s_PoleOf 63 (fuelOf fu []) (Code.sub [1, 1, 1, 1, 1, 0, 1, 0, 0, 1, 0, 0, 1, 0, 0] (bodyF P 40))) f (T_s_PoleOf_7 p k l x y) (kBlock 2 (kBlock 1 (kSeq (fun s => exec P S_s_PoleOf 63 (fuelOf fu []) (Code.sub [1, 1, 1, 1, 1, 0, 1, 0, 0, 1, 1] (bodyF P 40)) s (kLoop rc6 (T_s_PoleOf_6 p k l x) (kBlock 0 (kSeq (fun s => exec P S_s_PoleOf 63 (fuelOf fu []) (Code.sub [1, 1, 1, 1, 1, 1] (bodyF P 40)) s (finT P 40 dec_a2_i)) (finT P 40 dec_a2_i))))) (kLoop rc6 (T_s_PoleOf_6 p k l x) (kBlock 0 (kSeq (fun s => exec P S_s_PoleOf 63 (fuelOf fu []) (Code.sub [1, 1, 1, 1, 1, 1] (bodyF P 40)) s (finT P 40 dec_a2_i)) (finT P 40 dec_a2_i)))))))
def B_s_PoleOf_7 (p : Int) (k : Int × Int × Int × Int × Int × Int) (l : Int × Int × Int) (x : Int) (rec6 : Int → Option ((Int × Int) × Int)) (rec7 : Int → Option ((Int × Int) × Int)) (y : Int) : Option ((Int × Int) × Int) :=
  (if (decide (y < p)) = true then (if (prB p) = true then (if ((s_l08Polar p k (x, y)).2) = true then (if (((s_l08Polar p k (x, y)).1) == l) = true then some ((x, y), 0) else rec7 (wI (y + 1))) else rec7 (wI (y + 1))) else none) else rec6 (wI (x + 1)))
def L_s_PoleOf_7 (fu : Nat) (p : Int) (k : Int × Int × Int × Int × Int × Int) (l : Int × Int × Int) (x : Int) (rec6 : Int → Option ((Int × Int) × Int)) : Nat → Int → Option ((Int × Int) × Int)
  | 0, _ => none
  | f + 1, y => B_s_PoleOf_7 p k l x rec6 (L_s_PoleOf_7 fu p k l x rec6 f) y
theorem loop_s_PoleOf_7 (fu : Nat) (p : Int) (k : Int × Int × Int × Int × Int × Int) (l : Int × Int × Int) (x : Int) (rc6 : Tab → Option ((Int × Int) × Int)) : ∀ (f : Nat) (y : Int), X_s_PoleOf_7 Try.prog fu p k l x rc6 f y = L_s_PoleOf_7 fu p k l x (fun x => rc6 (T_s_PoleOf_6 p k l x)) f y := by
  intro f
  induction f with
  | zero => intros; rfl
  | succ f ih =>
    intro y
    have h1 : X_s_PoleOf_7 Try.prog fu p k l x rc6 (f + 1) y = B_s_PoleOf_7 p k l x (fun x => rc6 (T_s_PoleOf_6 p k l x)) (X_s_PoleOf_7 Try.prog fu p k l x rc6 f) y := by kernel_rfl
    have h2 : X_s_PoleOf_7 Try.prog fu p k l x rc6 f = L_s_PoleOf_7 fu p k l x (fun x => rc6 (T_s_PoleOf_6 p k l x)) f := by funext y; exact ih y
    rw [h1, h2]
    rfl
def X_s_PoleOf_6 (P : Program) (fu : Nat) (p : Int) (k : Int × Int × Int × Int × Int × Int) (l : Int × Int × Int) (f : Nat) (x : Int) : Option ((Int × Int) × Int) := loopK (exec P S_s_PoleOf 63 (fuelOf fu []) (Code.sub [1, 1, 1, 1, 1, 0, 1, 0, 0] (bodyF P 40))) f (T_s_PoleOf_6 p k l x) (kBlock 0 (kSeq (fun s => exec P S_s_PoleOf 63 (fuelOf fu []) (Code.sub [1, 1, 1, 1, 1, 1] (bodyF P 40)) s (finT P 40 dec_a2_i)) (finT P 40 dec_a2_i)))
def B_s_PoleOf_6 (p : Int) (k : Int × Int × Int × Int × Int × Int) (l : Int × Int × Int) (lo7 : Int → Option ((Int × Int) × Int)) (rec6 : Int → Option ((Int × Int) × Int)) (x : Int) : Option ((Int × Int) × Int) :=
  (if (decide (x < p)) = true then lo7 0 else some ((0, 0), 4))
def L_s_PoleOf_6 (fu : Nat) (p : Int) (k : Int × Int × Int × Int × Int × Int) (l : Int × Int × Int) : Nat → Int → Option ((Int × Int) × Int)
  | 0, _ => none
  | f + 1, x => B_s_PoleOf_6 p k l (L_s_PoleOf_7 fu p k l x (L_s_PoleOf_6 fu p k l f) fu) (L_s_PoleOf_6 fu p k l f) x
theorem loop_s_PoleOf_6 (fu : Nat) (p : Int) (k : Int × Int × Int × Int × Int × Int) (l : Int × Int × Int) : ∀ (f : Nat) (x : Int), X_s_PoleOf_6 Try.prog fu p k l f x = L_s_PoleOf_6 fu p k l f x := by
  intro f
  induction f with
  | zero => intros; rfl
  | succ f ih =>
    intro x
    have h1 : X_s_PoleOf_6 Try.prog fu p k l (f + 1) x = B_s_PoleOf_6 p k l (X_s_PoleOf_7 Try.prog fu p k l x (fun t => loopK (exec Try.prog S_s_PoleOf 63 (fuelOf fu []) (Code.sub [1, 1, 1, 1, 1, 0, 1, 0, 0] (bodyF Try.prog 40))) f t (kBlock 0 (kSeq (fun s => exec Try.prog S_s_PoleOf 63 (fuelOf fu []) (Code.sub [1, 1, 1, 1, 1, 1] (bodyF Try.prog 40)) s (finT Try.prog 40 dec_a2_i)) (finT Try.prog 40 dec_a2_i)))) fu) (X_s_PoleOf_6 Try.prog fu p k l f) x := by kernel_rfl
    have h2 : X_s_PoleOf_6 Try.prog fu p k l f = L_s_PoleOf_6 fu p k l f := by funext x; exact ih x
    have c7 : (X_s_PoleOf_7 Try.prog fu p k l x (fun t => loopK (exec Try.prog S_s_PoleOf 63 (fuelOf fu []) (Code.sub [1, 1, 1, 1, 1, 0, 1, 0, 0] (bodyF Try.prog 40))) f t (kBlock 0 (kSeq (fun s => exec Try.prog S_s_PoleOf 63 (fuelOf fu []) (Code.sub [1, 1, 1, 1, 1, 1] (bodyF Try.prog 40)) s (finT Try.prog 40 dec_a2_i)) (finT Try.prog 40 dec_a2_i)))) fu) = L_s_PoleOf_7 fu p k l x (X_s_PoleOf_6 Try.prog fu p k l f) fu := by funext y; exact loop_s_PoleOf_7 fu p k l x (fun t => loopK (exec Try.prog S_s_PoleOf 63 (fuelOf fu []) (Code.sub [1, 1, 1, 1, 1, 0, 1, 0, 0] (bodyF Try.prog 40))) f t (kBlock 0 (kSeq (fun s => exec Try.prog S_s_PoleOf 63 (fuelOf fu []) (Code.sub [1, 1, 1, 1, 1, 1] (bodyF Try.prog 40)) s (finT Try.prog 40 dec_a2_i)) (finT Try.prog 40 dec_a2_i)))) fu y
    rw [h1, c7, h2]
    rfl
def X_s_PoleOf_11 (P : Program) (fu : Nat) (p : Int) (k : Int × Int × Int × Int × Int × Int) (l : Int × Int × Int) (x : Int) (rc10 : Tab → Option ((Int × Int) × Int)) (f : Nat) (y : Int) : Option ((Int × Int) × Int) := loopK (exec P S_s_PoleOf 63 (fuelOf fu []) (Code.sub [1, 1, 1, 1, 1, 0, 1, 0, 0, 1, 0, 0, 1, 0, 0] (bodyF P 40))) f (T_s_PoleOf_11 p k l x y) (kBlock 2 (kBlock 1 (kSeq (fun s => exec P S_s_PoleOf 63 (fuelOf fu []) (Code.sub [1, 1, 1, 1, 1, 0, 1, 0, 0, 1, 1] (bodyF P 40)) s (kLoop rc10 (T_s_PoleOf_10 p k l x) (kBlock 0 (kSeq (fun s => exec P S_s_PoleOf 63 (fuelOf fu []) (Code.sub [1, 1, 1, 1, 1, 1] (bodyF P 40)) s (finT P 40 dec_a2_i)) (finT P 40 dec_a2_i))))) (kLoop rc10 (T_s_PoleOf_10 p k l x) (kBlock 0 (kSeq (fun s => exec P S_s_PoleOf 63 (fuelOf fu []) (Code.sub [1, 1, 1, 1, 1, 1] (bodyF P 40)) s (finT P 40 dec_a2_i)) (finT P 40 dec_a2_i)))))))
def B_s_PoleOf_11 (p : Int) (k : Int × Int × Int × Int × Int × Int) (l : Int × Int × Int) (x : Int) (rec10 : Int → Option ((Int × Int) × Int)) (rec11 : Int → Option ((Int × Int) × Int)) (y : Int) : Option ((Int × Int) × Int) :=
  (if (decide (y < p)) = true then (if (prB p) = true then (if ((s_l08Polar p k (x, y)).2) = true then (if (((s_l08Polar p k (x, y)).1) == l) = true then some ((x, y), 0) else rec11 (wI (y + 1))) else rec11 (wI (y + 1))) else none) else rec10 (wI (x + 1)))
def L_s_PoleOf_11 (fu : Nat) (p : Int) (k : Int × Int × Int × Int × Int × Int) (l : Int × Int × Int) (x : Int) (rec10 : Int → Option ((Int × Int) × Int)) : Nat → Int → Option ((Int × Int) × Int)
  | 0, _ => none
  | f + 1, y => B_s_PoleOf_11 p k l x rec10 (L_s_PoleOf_11 fu p k l x rec10 f) y
theorem loop_s_PoleOf_11 (fu : Nat) (p : Int) (k : Int × Int × Int × Int × Int × Int) (l : Int × Int × Int) (x : Int) (rc10 : Tab → Option ((Int × Int) × Int)) : ∀ (f : Nat) (y : Int), X_s_PoleOf_11 Try.prog fu p k l x rc10 f y = L_s_PoleOf_11 fu p k l x (fun x => rc10 (T_s_PoleOf_10 p k l x)) f y := by
  intro f
  induction f with
  | zero => intros; rfl
  | succ f ih =>
    intro y
    have h1 : X_s_PoleOf_11 Try.prog fu p k l x rc10 (f + 1) y = B_s_PoleOf_11 p k l x (fun x => rc10 (T_s_PoleOf_10 p k l x)) (X_s_PoleOf_11 Try.prog fu p k l x rc10 f) y := by kernel_rfl
    have h2 : X_s_PoleOf_11 Try.prog fu p k l x rc10 f = L_s_PoleOf_11 fu p k l x (fun x => rc10 (T_s_PoleOf_10 p k l x)) f := by funext y; exact ih y
    rw [h1, h2]
    rfl
def X_s_PoleOf_10 (P : Program) (fu : Nat) (p : Int) (k : Int × Int × Int × Int × Int × Int) (l : Int × Int × Int) (f : Nat) (x : Int) : Option ((Int × Int) × Int) := loopK (exec P S_s_PoleOf 63 (fuelOf fu []) (Code.sub [1, 1, 1, 1, 1, 0, 1, 0, 0] (bodyF P 40))) f (T_s_PoleOf_10 p k l x) (kBlock 0 (kSeq (fun s => exec P S_s_PoleOf 63 (fuelOf fu []) (Code.sub [1, 1, 1, 1, 1, 1] (bodyF P 40)) s (finT P 40 dec_a2_i)) (finT P 40 dec_a2_i)))
def B_s_PoleOf_10 (p : Int) (k : Int × Int × Int × Int × Int × Int) (l : Int × Int × Int) (lo11 : Int → Option ((Int × Int) × Int)) (rec10 : Int → Option ((Int × Int) × Int)) (x : Int) : Option ((Int × Int) × Int) :=
  (if (decide (x < p)) = true then lo11 0 else some ((0, 0), 4))
def L_s_PoleOf_10 (fu : Nat) (p : Int) (k : Int × Int × Int × Int × Int × Int) (l : Int × Int × Int) : Nat → Int → Option ((Int × Int) × Int)
  | 0, _ => none
  | f + 1, x => B_s_PoleOf_10 p k l (L_s_PoleOf_11 fu p k l x (L_s_PoleOf_10 fu p k l f) fu) (L_s_PoleOf_10 fu p k l f) x
theorem loop_s_PoleOf_10 (fu : Nat) (p : Int) (k : Int × Int × Int × Int × Int × Int) (l : Int × Int × Int) : ∀ (f : Nat) (x : Int), X_s_PoleOf_10 Try.prog fu p k l f x = L_s_PoleOf_10 fu p k l f x := by
  intro f
  induction f with
  | zero => intros; rfl
  | succ f ih =>
    intro x
    have h1 : X_s_PoleOf_10 Try.prog fu p k l (f + 1) x = B_s_PoleOf_10 p k l (X_s_PoleOf_11 Try.prog fu p k l x (fun t => loopK (exec Try.prog S_s_PoleOf 63 (fuelOf fu []) (Code.sub [1, 1, 1, 1, 1, 0, 1, 0, 0] (bodyF Try.prog 40))) f t (kBlock 0 (kSeq (fun s => exec Try.prog S_s_PoleOf 63 (fuelOf fu []) (Code.sub [1, 1, 1, 1, 1, 1] (bodyF Try.prog 40)) s (finT Try.prog 40 dec_a2_i)) (finT Try.prog 40 dec_a2_i)))) fu) (X_s_PoleOf_10 Try.prog fu p k l f) x := by kernel_rfl
    have h2 : X_s_PoleOf_10 Try.prog fu p k l f = L_s_PoleOf_10 fu p k l f := by funext x; exact ih x
    have c11 : (X_s_PoleOf_11 Try.prog fu p k l x (fun t => loopK (exec Try.prog S_s_PoleOf 63 (fuelOf fu []) (Code.sub [1, 1, 1, 1, 1, 0, 1, 0, 0] (bodyF Try.prog 40))) f t (kBlock 0 (kSeq (fun s => exec Try.prog S_s_PoleOf 63 (fuelOf fu []) (Code.sub [1, 1, 1, 1, 1, 1] (bodyF Try.prog 40)) s (finT Try.prog 40 dec_a2_i)) (finT Try.prog 40 dec_a2_i)))) fu) = L_s_PoleOf_11 fu p k l x (X_s_PoleOf_10 Try.prog fu p k l f) fu := by funext y; exact loop_s_PoleOf_11 fu p k l x (fun t => loopK (exec Try.prog S_s_PoleOf 63 (fuelOf fu []) (Code.sub [1, 1, 1, 1, 1, 0, 1, 0, 0] (bodyF Try.prog 40))) f t (kBlock 0 (kSeq (fun s => exec Try.prog S_s_PoleOf 63 (fuelOf fu []) (Code.sub [1, 1, 1, 1, 1, 1] (bodyF Try.prog 40)) s (finT Try.prog 40 dec_a2_i)) (finT Try.prog 40 dec_a2_i)))) fu y
    rw [h1, c11, h2]
    rfl
def X_s_PoleOf_15 (P : Program) (fu : Nat) (p : Int) (k : Int × Int × Int × Int × Int × Int) (l : Int × Int × Int) (x : Int) (rc14 : Tab → Option ((Int × Int) × Int)) (f : Nat) (y : Int) : Option ((Int × Int) × Int) := loopK (exec P S_s_PoleOf 63 (fuelOf fu []) (Code.sub [1, 1, 1, 1, 1, 0, 1, 0, 0, 1, 0, 0, 1, 0, 0] (bodyF P 40))) f (T_s_PoleOf_15 p k l x y) (kBlock 2 (kBlock 1 (kSeq (fun s => exec P S_s_PoleOf 63 (fuelOf fu []) (Code.sub [1, 1, 1, 1, 1, 0, 1, 0, 0, 1, 1] (bodyF P 40)) s (kLoop rc14 (T_s_PoleOf_14 p k l x) (kBlock 0 (kSeq (fun s => exec P S_s_PoleOf 63 (fuelOf fu []) (Code.sub [1, 1, 1, 1, 1, 1] (bodyF P 40)) s (finT P 40 dec_a2_i)) (finT P 40 dec_a2_i))))) (kLoop rc14 (T_s_PoleOf_14 p k l x) (kBlock 0 (kSeq (fun s => exec P S_s_PoleOf 63 (fuelOf fu []) (Code.sub [1, 1, 1, 1, 1, 1] (bodyF P 40)) s (finT P 40 dec_a2_i)) (finT P 40 dec_a2_i)))))))
def B_s_PoleOf_15 (p : Int) (k : Int × Int × Int × Int × Int × Int) (l : Int × Int × Int) (x : Int) (rec14 : Int → Option ((Int × Int) × Int)) (rec15 : Int → Option ((Int × Int) × Int)) (y : Int) : Option ((Int × Int) × Int) :=
  (if (decide (y < p)) = true then (if (prB p) = true then (if ((s_l08Polar p k (x, y)).2) = true then (if (((s_l08Polar p k (x, y)).1) == l) = true then some ((x, y), 0) else rec15 (wI (y + 1))) else rec15 (wI (y + 1))) else none) else rec14 (wI (x + 1)))
def L_s_PoleOf_15 (fu : Nat) (p : Int) (k : Int × Int × Int × Int × Int × Int) (l : Int × Int × Int) (x : Int) (rec14 : Int → Option ((Int × Int) × Int)) : Nat → Int → Option ((Int × Int) × Int)
  | 0, _ => none
  | f + 1, y => B_s_PoleOf_15 p k l x rec14 (L_s_PoleOf_15 fu p k l x rec14 f) y
theorem loop_s_PoleOf_15 (fu : Nat) (p : Int) (k : Int × Int × Int × Int × Int × Int) (l : Int × Int × Int) (x : Int) (rc14 : Tab → Option ((Int × Int) × Int)) : ∀ (f : Nat) (y : Int), X_s_PoleOf_15 Try.prog fu p k l x rc14 f y = L_s_PoleOf_15 fu p k l x (fun x => rc14 (T_s_PoleOf_14 p k l x)) f y := by
  intro f
  induction f with
  | zero => intros; rfl
  | succ f ih =>
    intro y
    have h1 : X_s_PoleOf_15 Try.prog fu p k l x rc14 (f + 1) y = B_s_PoleOf_15 p k l x (fun x => rc14 (T_s_PoleOf_14 p k l x)) (X_s_PoleOf_15 Try.prog fu p k l x rc14 f) y := by kernel_rfl
    have h2 : X_s_PoleOf_15 Try.prog fu p k l x rc14 f = L_s_PoleOf_15 fu p k l x (fun x => rc14 (T_s_PoleOf_14 p k l x)) f := by funext y; exact ih y
    rw [h1, h2]
    rfl
def X_s_PoleOf_14 (P : Program) (fu : Nat) (p : Int) (k : Int × Int × Int × Int × Int × Int) (l : Int × Int × Int) (f : Nat) (x : Int) : Option ((Int × Int) × Int) := loopK (exec P S_s_PoleOf 63 (fuelOf fu []) (Code.sub [1, 1, 1, 1, 1, 0, 1, 0, 0] (bodyF P 40))) f (T_s_PoleOf_14 p k l x) (kBlock 0 (kSeq (fun s => exec P S_s_PoleOf 63 (fuelOf fu []) (Code.sub [1, 1, 1, 1, 1, 1] (bodyF P 40)) s (finT P 40 dec_a2_i)) (finT P 40 dec_a2_i)))
def B_s_PoleOf_14 (p : Int) (k : Int × Int × Int × Int × Int × Int) (l : Int × Int × Int) (lo15 : Int → Option ((Int × Int) × Int)) (rec14 : Int → Option ((Int × Int) × Int)) (x : Int) : Option ((Int × Int) × Int) :=
  (if (decide (x < p)) = true then lo15 0 else some ((0, 0), 4))
def L_s_PoleOf_14 (fu : Nat) (p : Int) (k : Int × Int × Int × Int × Int × Int) (l : Int × Int × Int) : Nat → Int → Option ((Int × Int) × Int)
  | 0, _ => none
  | f + 1, x => B_s_PoleOf_14 p k l (L_s_PoleOf_15 fu p k l x (L_s_PoleOf_14 fu p k l f) fu) (L_s_PoleOf_14 fu p k l f) x
theorem loop_s_PoleOf_14 (fu : Nat) (p : Int) (k : Int × Int × Int × Int × Int × Int) (l : Int × Int × Int) : ∀ (f : Nat) (x : Int), X_s_PoleOf_14 Try.prog fu p k l f x = L_s_PoleOf_14 fu p k l f x := by
  intro f
  induction f with
  | zero => intros; rfl
  | succ f ih =>
    intro x
    have h1 : X_s_PoleOf_14 Try.prog fu p k l (f + 1) x = B_s_PoleOf_14 p k l (X_s_PoleOf_15 Try.prog fu p k l x (fun t => loopK (exec Try.prog S_s_PoleOf 63 (fuelOf fu []) (Code.sub [1, 1, 1, 1, 1, 0, 1, 0, 0] (bodyF Try.prog 40))) f t (kBlock 0 (kSeq (fun s => exec Try.prog S_s_PoleOf 63 (fuelOf fu []) (Code.sub [1, 1, 1, 1, 1, 1] (bodyF Try.prog 40)) s (finT Try.prog 40 dec_a2_i)) (finT Try.prog 40 dec_a2_i)))) fu) (X_s_PoleOf_14 Try.prog fu p k l f) x := by kernel_rfl
    have h2 : X_s_PoleOf_14 Try.prog fu p k l f = L_s_PoleOf_14 fu p k l f := by funext x; exact ih x
    have c15 : (X_s_PoleOf_15 Try.prog fu p k l x (fun t => loopK (exec Try.prog S_s_PoleOf 63 (fuelOf fu []) (Code.sub [1, 1, 1, 1, 1, 0, 1, 0, 0] (bodyF Try.prog 40))) f t (kBlock 0 (kSeq (fun s => exec Try.prog S_s_PoleOf 63 (fuelOf fu []) (Code.sub [1, 1, 1, 1, 1, 1] (bodyF Try.prog 40)) s (finT Try.prog 40 dec_a2_i)) (finT Try.prog 40 dec_a2_i)))) fu) = L_s_PoleOf_15 fu p k l x (X_s_PoleOf_14 Try.prog fu p k l f) fu := by funext y; exact loop_s_PoleOf_15 fu p k l x (fun t => loopK (exec Try.prog S_s_PoleOf 63 (fuelOf fu []) (Code.sub [1, 1, 1, 1, 1, 0, 1, 0, 0] (bodyF Try.prog 40))) f t (kBlock 0 (kSeq (fun s => exec Try.prog S_s_PoleOf 63 (fuelOf fu []) (Code.sub [1, 1, 1, 1, 1, 1] (bodyF Try.prog 40)) s (finT Try.prog 40 dec_a2_i)) (finT Try.prog 40 dec_a2_i)))) fu y
    rw [h1, c15, h2]
    rfl
def G_s_PoleOf (p : Int) (k : Int × Int × Int × Int × Int × Int) (l : Int × Int × Int) (lo2 : Int → Option ((Int × Int) × Int)) (lo6 : Int → Option ((Int × Int) × Int)) (lo10 : Int → Option ((Int × Int) × Int)) (lo14 : Int → Option ((Int × Int) × Int)) : Option ((Int × Int) × Int) :=
  (if ((s_l08Code p k) == 0) = true then (if ((s_l01Lines p [l]) == 0) = true then (if (prB p) = true then (if ((s_l08Determinant p k) == 0) = true then some ((0, 0), 5) else (if ((s_l01Lines p [l]) != 0) = true then some ((0, 0), (s_l01Lines p [l])) else lo2 0)) else none) else (if ((s_l01Lines p [l]) != 0) = true then some ((0, 0), (s_l01Lines p [l])) else lo6 0)) else (if ((s_l08Code p k) == 0) = true then (if (prB p) = true then (if ((s_l08Determinant p k) == 0) = true then some ((0, 0), 5) else (if ((s_l08Code p k) != 0) = true then some ((0, 0), (s_l08Code p k)) else lo10 0)) else none) else (if ((s_l08Code p k) != 0) = true then some ((0, 0), (s_l08Code p k)) else lo14 0)))
def Fo_s_PoleOf (fu : Nat) (p : Int) (k : Int × Int × Int × Int × Int × Int) (l : Int × Int × Int) : Option ((Int × Int) × Int) := G_s_PoleOf p k l (L_s_PoleOf_2 fu p k l fu) (L_s_PoleOf_6 fu p k l fu) (L_s_PoleOf_10 fu p k l fu) (L_s_PoleOf_14 fu p k l fu)
theorem eqg_s_PoleOf (fu : Nat) (p : Int) (k : Int × Int × Int × Int × Int × Int) (l : Int × Int × Int) : execT Try.prog S_s_PoleOf 40 63 (fuelOf fu []) dec_a2_i [.v (.int .i64 p), .v (.agg ⟨[.int .i64 k.1, .int .i64 k.2.1, .int .i64 k.2.2.1, .int .i64 k.2.2.2.1, .int .i64 k.2.2.2.2.1, .int .i64 k.2.2.2.2.2]⟩), .v (.agg ⟨[.int .i64 l.1, .int .i64 l.2.1, .int .i64 l.2.2]⟩)] = G_s_PoleOf p k l (L_s_PoleOf_2 fu p k l fu) (L_s_PoleOf_6 fu p k l fu) (L_s_PoleOf_10 fu p k l fu) (L_s_PoleOf_14 fu p k l fu) := by
  have h1 : execT Try.prog S_s_PoleOf 40 63 (fuelOf fu []) dec_a2_i [.v (.int .i64 p), .v (.agg ⟨[.int .i64 k.1, .int .i64 k.2.1, .int .i64 k.2.2.1, .int .i64 k.2.2.2.1, .int .i64 k.2.2.2.2.1, .int .i64 k.2.2.2.2.2]⟩), .v (.agg ⟨[.int .i64 l.1, .int .i64 l.2.1, .int .i64 l.2.2]⟩)] = G_s_PoleOf p k l (X_s_PoleOf_2 Try.prog fu p k l fu) (X_s_PoleOf_6 Try.prog fu p k l fu) (X_s_PoleOf_10 Try.prog fu p k l fu) (X_s_PoleOf_14 Try.prog fu p k l fu) := by kernel_rfl
  have c2 : X_s_PoleOf_2 Try.prog fu p k l fu = L_s_PoleOf_2 fu p k l fu := by funext x; exact loop_s_PoleOf_2 fu p k l fu x
  have c6 : X_s_PoleOf_6 Try.prog fu p k l fu = L_s_PoleOf_6 fu p k l fu := by funext x; exact loop_s_PoleOf_6 fu p k l fu x
  have c10 : X_s_PoleOf_10 Try.prog fu p k l fu = L_s_PoleOf_10 fu p k l fu := by funext x; exact loop_s_PoleOf_10 fu p k l fu x
  have c14 : X_s_PoleOf_14 Try.prog fu p k l fu = L_s_PoleOf_14 fu p k l fu := by funext x; exact loop_s_PoleOf_14 fu p k l fu x
  rw [h1, c2, c6, c10, c14]
theorem eq_s_PoleOf (fu : Nat) (p : Int) (k : Int × Int × Int × Int × Int × Int) (l : Int × Int × Int) : execT Try.prog S_s_PoleOf 40 63 (fuelOf fu []) dec_a2_i [.v (.int .i64 p), .v (.agg ⟨[.int .i64 k.1, .int .i64 k.2.1, .int .i64 k.2.2.1, .int .i64 k.2.2.2.1, .int .i64 k.2.2.2.2.1, .int .i64 k.2.2.2.2.2]⟩), .v (.agg ⟨[.int .i64 l.1, .int .i64 l.2.1, .int .i64 l.2.2]⟩)] = Fo_s_PoleOf fu p k l := eqg_s_PoleOf fu p k l
def V_s_PoleOf_2 (p : Int) (k : Int × Int × Int × Int × Int × Int) (l : Int × Int × Int) : Int → (Int × Int) × Int := fun _ => (((pts p).findSome? (fun zz : P2 => if ((s_l08Polar p k zz).2 && ((s_l08Polar p k zz).1 == l)) = true then some (zz, (0 : Int)) else none)).getD ((0, 0), 4))
theorem lo3_s_PoleOf (p : Int) (k_ : P6) (l : P3) (hp : prB p = true) (x : Int) (rec2 : Int → Option ((Int × Int) × Int)) {F : Nat} (hF : p.toNat < F) : L_s_PoleOf_3 1000000 p k_ l x rec2 F 0 = orO ((List.range p.toNat).findSome? (fun y : Nat => if ((s_l08Polar p k_ (x, (y : Int))).2 && ((s_l08Polar p k_ (x, (y : Int))).1 == l)) = true then some (((x : Int), (y : Int)), (0 : Int)) else none)) (rec2 (wI (x + 1))) := by
  obtain ⟨h1, h0, hpn⟩ := prB_nat hp
  exact seekO (L := fun f i => L_s_PoleOf_3 1000000 p k_ l x rec2 f i) (q := (fun y : Nat => if ((s_l08Polar p k_ (x, (y : Int))).2 && ((s_l08Polar p k_ (x, (y : Int))).1 == l)) = true then some (((x : Int), (y : Int)), (0 : Int)) else none)) hF
    (fun f k hk => by
      show B_s_PoleOf_3 p k_ l x rec2 (L_s_PoleOf_3 1000000 p k_ l x rec2 f) (k : Int) = _
      unfold B_s_PoleOf_3
      simp only [cndp hk, hp, if_true, wrap_add1 hk (by omega)]
      generalize ((s_l08Polar p k_ (x, (k : Int))).2) = c0
      generalize (((s_l08Polar p k_ (x, (k : Int))).1 == l)) = c1
      cases c0 <;> cases c1 <;> rfl)
    (fun f => by
      show B_s_PoleOf_3 p k_ l x rec2 (L_s_PoleOf_3 1000000 p k_ l x rec2 f) ((p.toNat : Nat) : Int) = _
      unfold B_s_PoleOf_3
      rw [if_neg (by simp; omega)])
theorem lo2_s_PoleOf (p : Int) (k_ : P6) (l : P3) (hp : prB p = true) {F : Nat} (hF : 993 < F) : L_s_PoleOf_2 1000000 p k_ l F 0 = some (((pts p).findSome? (fun zz : P2 => if ((s_l08Polar p k_ zz).2 && ((s_l08Polar p k_ zz).1 == l)) = true then some (zz, (0 : Int)) else none)).getD ((0, 0), 4)) := by
  obtain ⟨h1, h0, hpn⟩ := prB_nat hp
  have h := seek (L := fun f i => L_s_PoleOf_2 1000000 p k_ l f i) (n := p.toNat) (F := F) (q := fun x : Nat => (List.range p.toNat).findSome? (fun y : Nat => if ((s_l08Polar p k_ ((x : Int), (y : Int))).2 && ((s_l08Polar p k_ ((x : Int), (y : Int))).1 == l)) = true then some ((((x : Int) : Int), (y : Int)), (0 : Int)) else none)) (e := ((0, 0), 4)) (by omega)
    (fun f k hk => by
      show B_s_PoleOf_2 p k_ l (L_s_PoleOf_3 1000000 p k_ l (k : Int) (L_s_PoleOf_2 1000000 p k_ l f) 1000000) (L_s_PoleOf_2 1000000 p k_ l f) (k : Int) = _
      unfold B_s_PoleOf_2
      rw [if_pos (cndp hk), lo3_s_PoleOf _ _ _ hp _ _ (by omega), wrap_add1 hk (by omega)])
    (fun f => by
      show B_s_PoleOf_2 p k_ l (L_s_PoleOf_3 1000000 p k_ l ((p.toNat : Nat) : Int) (L_s_PoleOf_2 1000000 p k_ l f) 1000000) (L_s_PoleOf_2 1000000 p k_ l f) ((p.toNat : Nat) : Int) = _
      unfold B_s_PoleOf_2
      rw [if_neg (by simp; omega)])
  have h2 := find_grid p.toNat (fun zz : P2 => if ((s_l08Polar p k_ zz).2 && ((s_l08Polar p k_ zz).1 == l)) = true then some (zz, (0 : Int)) else none)
  unfold pts
  rw [← h2]
  exact h

def V_s_PoleOf_6 (p : Int) (k : Int × Int × Int × Int × Int × Int) (l : Int × Int × Int) : Int → (Int × Int) × Int := fun _ => (((pts p).findSome? (fun zz : P2 => if ((s_l08Polar p k zz).2 && ((s_l08Polar p k zz).1 == l)) = true then some (zz, (0 : Int)) else none)).getD ((0, 0), 4))
theorem lo7_s_PoleOf (p : Int) (k_ : P6) (l : P3) (hp : prB p = true) (x : Int) (rec6 : Int → Option ((Int × Int) × Int)) {F : Nat} (hF : p.toNat < F) : L_s_PoleOf_7 1000000 p k_ l x rec6 F 0 = orO ((List.range p.toNat).findSome? (fun y : Nat => if ((s_l08Polar p k_ (x, (y : Int))).2 && ((s_l08Polar p k_ (x, (y : Int))).1 == l)) = true then some (((x : Int), (y : Int)), (0 : Int)) else none)) (rec6 (wI (x + 1))) := by
  obtain ⟨h1, h0, hpn⟩ := prB_nat hp
  exact seekO (L := fun f i => L_s_PoleOf_7 1000000 p k_ l x rec6 f i) (q := (fun y : Nat => if ((s_l08Polar p k_ (x, (y : Int))).2 && ((s_l08Polar p k_ (x, (y : Int))).1 == l)) = true then some (((x : Int), (y : Int)), (0 : Int)) else none)) hF
    (fun f k hk => by
      show B_s_PoleOf_7 p k_ l x rec6 (L_s_PoleOf_7 1000000 p k_ l x rec6 f) (k : Int) = _
      unfold B_s_PoleOf_7
      simp only [cndp hk, hp, if_true, wrap_add1 hk (by omega)]
      generalize ((s_l08Polar p k_ (x, (k : Int))).2) = c0
      generalize (((s_l08Polar p k_ (x, (k : Int))).1 == l)) = c1
      cases c0 <;> cases c1 <;> rfl)
    (fun f => by
      show B_s_PoleOf_7 p k_ l x rec6 (L_s_PoleOf_7 1000000 p k_ l x rec6 f) ((p.toNat : Nat) : Int) = _
      unfold B_s_PoleOf_7
      rw [if_neg (by simp; omega)])
theorem lo6_s_PoleOf (p : Int) (k_ : P6) (l : P3) (hp : prB p = true) {F : Nat} (hF : 993 < F) : L_s_PoleOf_6 1000000 p k_ l F 0 = some (((pts p).findSome? (fun zz : P2 => if ((s_l08Polar p k_ zz).2 && ((s_l08Polar p k_ zz).1 == l)) = true then some (zz, (0 : Int)) else none)).getD ((0, 0), 4)) := by
  obtain ⟨h1, h0, hpn⟩ := prB_nat hp
  have h := seek (L := fun f i => L_s_PoleOf_6 1000000 p k_ l f i) (n := p.toNat) (F := F) (q := fun x : Nat => (List.range p.toNat).findSome? (fun y : Nat => if ((s_l08Polar p k_ ((x : Int), (y : Int))).2 && ((s_l08Polar p k_ ((x : Int), (y : Int))).1 == l)) = true then some ((((x : Int) : Int), (y : Int)), (0 : Int)) else none)) (e := ((0, 0), 4)) (by omega)
    (fun f k hk => by
      show B_s_PoleOf_6 p k_ l (L_s_PoleOf_7 1000000 p k_ l (k : Int) (L_s_PoleOf_6 1000000 p k_ l f) 1000000) (L_s_PoleOf_6 1000000 p k_ l f) (k : Int) = _
      unfold B_s_PoleOf_6
      rw [if_pos (cndp hk), lo7_s_PoleOf _ _ _ hp _ _ (by omega), wrap_add1 hk (by omega)])
    (fun f => by
      show B_s_PoleOf_6 p k_ l (L_s_PoleOf_7 1000000 p k_ l ((p.toNat : Nat) : Int) (L_s_PoleOf_6 1000000 p k_ l f) 1000000) (L_s_PoleOf_6 1000000 p k_ l f) ((p.toNat : Nat) : Int) = _
      unfold B_s_PoleOf_6
      rw [if_neg (by simp; omega)])
  have h2 := find_grid p.toNat (fun zz : P2 => if ((s_l08Polar p k_ zz).2 && ((s_l08Polar p k_ zz).1 == l)) = true then some (zz, (0 : Int)) else none)
  unfold pts
  rw [← h2]
  exact h

def V_s_PoleOf_10 (p : Int) (k : Int × Int × Int × Int × Int × Int) (l : Int × Int × Int) : Int → (Int × Int) × Int := fun _ => (((pts p).findSome? (fun zz : P2 => if ((s_l08Polar p k zz).2 && ((s_l08Polar p k zz).1 == l)) = true then some (zz, (0 : Int)) else none)).getD ((0, 0), 4))
theorem lo11_s_PoleOf (p : Int) (k_ : P6) (l : P3) (hp : prB p = true) (x : Int) (rec10 : Int → Option ((Int × Int) × Int)) {F : Nat} (hF : p.toNat < F) : L_s_PoleOf_11 1000000 p k_ l x rec10 F 0 = orO ((List.range p.toNat).findSome? (fun y : Nat => if ((s_l08Polar p k_ (x, (y : Int))).2 && ((s_l08Polar p k_ (x, (y : Int))).1 == l)) = true then some (((x : Int), (y : Int)), (0 : Int)) else none)) (rec10 (wI (x + 1))) := by
  obtain ⟨h1, h0, hpn⟩ := prB_nat hp
  exact seekO (L := fun f i => L_s_PoleOf_11 1000000 p k_ l x rec10 f i) (q := (fun y : Nat => if ((s_l08Polar p k_ (x, (y : Int))).2 && ((s_l08Polar p k_ (x, (y : Int))).1 == l)) = true then some (((x : Int), (y : Int)), (0 : Int)) else none)) hF
    (fun f k hk => by
      show B_s_PoleOf_11 p k_ l x rec10 (L_s_PoleOf_11 1000000 p k_ l x rec10 f) (k : Int) = _
      unfold B_s_PoleOf_11
      simp only [cndp hk, hp, if_true, wrap_add1 hk (by omega)]
      generalize ((s_l08Polar p k_ (x, (k : Int))).2) = c0
      generalize (((s_l08Polar p k_ (x, (k : Int))).1 == l)) = c1
      cases c0 <;> cases c1 <;> rfl)
    (fun f => by
      show B_s_PoleOf_11 p k_ l x rec10 (L_s_PoleOf_11 1000000 p k_ l x rec10 f) ((p.toNat : Nat) : Int) = _
      unfold B_s_PoleOf_11
      rw [if_neg (by simp; omega)])
theorem lo10_s_PoleOf (p : Int) (k_ : P6) (l : P3) (hp : prB p = true) {F : Nat} (hF : 993 < F) : L_s_PoleOf_10 1000000 p k_ l F 0 = some (((pts p).findSome? (fun zz : P2 => if ((s_l08Polar p k_ zz).2 && ((s_l08Polar p k_ zz).1 == l)) = true then some (zz, (0 : Int)) else none)).getD ((0, 0), 4)) := by
  obtain ⟨h1, h0, hpn⟩ := prB_nat hp
  have h := seek (L := fun f i => L_s_PoleOf_10 1000000 p k_ l f i) (n := p.toNat) (F := F) (q := fun x : Nat => (List.range p.toNat).findSome? (fun y : Nat => if ((s_l08Polar p k_ ((x : Int), (y : Int))).2 && ((s_l08Polar p k_ ((x : Int), (y : Int))).1 == l)) = true then some ((((x : Int) : Int), (y : Int)), (0 : Int)) else none)) (e := ((0, 0), 4)) (by omega)
    (fun f k hk => by
      show B_s_PoleOf_10 p k_ l (L_s_PoleOf_11 1000000 p k_ l (k : Int) (L_s_PoleOf_10 1000000 p k_ l f) 1000000) (L_s_PoleOf_10 1000000 p k_ l f) (k : Int) = _
      unfold B_s_PoleOf_10
      rw [if_pos (cndp hk), lo11_s_PoleOf _ _ _ hp _ _ (by omega), wrap_add1 hk (by omega)])
    (fun f => by
      show B_s_PoleOf_10 p k_ l (L_s_PoleOf_11 1000000 p k_ l ((p.toNat : Nat) : Int) (L_s_PoleOf_10 1000000 p k_ l f) 1000000) (L_s_PoleOf_10 1000000 p k_ l f) ((p.toNat : Nat) : Int) = _
      unfold B_s_PoleOf_10
      rw [if_neg (by simp; omega)])
  have h2 := find_grid p.toNat (fun zz : P2 => if ((s_l08Polar p k_ zz).2 && ((s_l08Polar p k_ zz).1 == l)) = true then some (zz, (0 : Int)) else none)
  unfold pts
  rw [← h2]
  exact h

def V_s_PoleOf_14 (p : Int) (k : Int × Int × Int × Int × Int × Int) (l : Int × Int × Int) : Int → (Int × Int) × Int := fun _ => (((pts p).findSome? (fun zz : P2 => if ((s_l08Polar p k zz).2 && ((s_l08Polar p k zz).1 == l)) = true then some (zz, (0 : Int)) else none)).getD ((0, 0), 4))
theorem lo15_s_PoleOf (p : Int) (k_ : P6) (l : P3) (hp : prB p = true) (x : Int) (rec14 : Int → Option ((Int × Int) × Int)) {F : Nat} (hF : p.toNat < F) : L_s_PoleOf_15 1000000 p k_ l x rec14 F 0 = orO ((List.range p.toNat).findSome? (fun y : Nat => if ((s_l08Polar p k_ (x, (y : Int))).2 && ((s_l08Polar p k_ (x, (y : Int))).1 == l)) = true then some (((x : Int), (y : Int)), (0 : Int)) else none)) (rec14 (wI (x + 1))) := by
  obtain ⟨h1, h0, hpn⟩ := prB_nat hp
  exact seekO (L := fun f i => L_s_PoleOf_15 1000000 p k_ l x rec14 f i) (q := (fun y : Nat => if ((s_l08Polar p k_ (x, (y : Int))).2 && ((s_l08Polar p k_ (x, (y : Int))).1 == l)) = true then some (((x : Int), (y : Int)), (0 : Int)) else none)) hF
    (fun f k hk => by
      show B_s_PoleOf_15 p k_ l x rec14 (L_s_PoleOf_15 1000000 p k_ l x rec14 f) (k : Int) = _
      unfold B_s_PoleOf_15
      simp only [cndp hk, hp, if_true, wrap_add1 hk (by omega)]
      generalize ((s_l08Polar p k_ (x, (k : Int))).2) = c0
      generalize (((s_l08Polar p k_ (x, (k : Int))).1 == l)) = c1
      cases c0 <;> cases c1 <;> rfl)
    (fun f => by
      show B_s_PoleOf_15 p k_ l x rec14 (L_s_PoleOf_15 1000000 p k_ l x rec14 f) ((p.toNat : Nat) : Int) = _
      unfold B_s_PoleOf_15
      rw [if_neg (by simp; omega)])
theorem lo14_s_PoleOf (p : Int) (k_ : P6) (l : P3) (hp : prB p = true) {F : Nat} (hF : 993 < F) : L_s_PoleOf_14 1000000 p k_ l F 0 = some (((pts p).findSome? (fun zz : P2 => if ((s_l08Polar p k_ zz).2 && ((s_l08Polar p k_ zz).1 == l)) = true then some (zz, (0 : Int)) else none)).getD ((0, 0), 4)) := by
  obtain ⟨h1, h0, hpn⟩ := prB_nat hp
  have h := seek (L := fun f i => L_s_PoleOf_14 1000000 p k_ l f i) (n := p.toNat) (F := F) (q := fun x : Nat => (List.range p.toNat).findSome? (fun y : Nat => if ((s_l08Polar p k_ ((x : Int), (y : Int))).2 && ((s_l08Polar p k_ ((x : Int), (y : Int))).1 == l)) = true then some ((((x : Int) : Int), (y : Int)), (0 : Int)) else none)) (e := ((0, 0), 4)) (by omega)
    (fun f k hk => by
      show B_s_PoleOf_14 p k_ l (L_s_PoleOf_15 1000000 p k_ l (k : Int) (L_s_PoleOf_14 1000000 p k_ l f) 1000000) (L_s_PoleOf_14 1000000 p k_ l f) (k : Int) = _
      unfold B_s_PoleOf_14
      rw [if_pos (cndp hk), lo15_s_PoleOf _ _ _ hp _ _ (by omega), wrap_add1 hk (by omega)])
    (fun f => by
      show B_s_PoleOf_14 p k_ l (L_s_PoleOf_15 1000000 p k_ l ((p.toNat : Nat) : Int) (L_s_PoleOf_14 1000000 p k_ l f) 1000000) (L_s_PoleOf_14 1000000 p k_ l f) ((p.toNat : Nat) : Int) = _
      unfold B_s_PoleOf_14
      rw [if_neg (by simp; omega)])
  have h2 := find_grid p.toNat (fun zz : P2 => if ((s_l08Polar p k_ zz).2 && ((s_l08Polar p k_ zz).1 == l)) = true then some (zz, (0 : Int)) else none)
  unfold pts
  rw [← h2]
  exact h

def s_PoleOf (p : Int) (k : Int × Int × Int × Int × Int × Int) (l : Int × Int × Int) : (Int × Int) × Int :=
  (if ((s_l08Code p k) == 0) = true then (if ((s_l01Lines p [l]) == 0) = true then (if ((s_l08Determinant p k) == 0) = true then ((0, 0), 5) else (if ((s_l01Lines p [l]) != 0) = true then ((0, 0), (s_l01Lines p [l])) else V_s_PoleOf_2 p k l 0)) else (if ((s_l01Lines p [l]) != 0) = true then ((0, 0), (s_l01Lines p [l])) else V_s_PoleOf_6 p k l 0)) else (if ((s_l08Code p k) == 0) = true then (if ((s_l08Determinant p k) == 0) = true then ((0, 0), 5) else (if ((s_l08Code p k) != 0) = true then ((0, 0), (s_l08Code p k)) else V_s_PoleOf_10 p k l 0)) else (if ((s_l08Code p k) != 0) = true then ((0, 0), (s_l08Code p k)) else V_s_PoleOf_14 p k l 0)))
theorem tot_s_PoleOf (p : Int) (k : Int × Int × Int × Int × Int × Int) (l : Int × Int × Int) : Fo_s_PoleOf 1000000 p k l = some (s_PoleOf p k l) := by
  unfold Fo_s_PoleOf G_s_PoleOf s_PoleOf
  (try simp only [wI_eq])
  repeat' (first | with_reducible rfl | refine chk_opt (by first | with_reducible rfl | exact Bool.true_or _ | (with_reducible exact asked_prB ‹_›) | (with_reducible exact l09Code_prB ‹_›) | (with_reducible exact l01Code_prB ‹_›) | (with_reducible exact l01Numbers_prB ‹_›) | (with_reducible exact l01Lines_prB ‹_›) | (with_reducible exact asked_prB0 ‹_›) | (with_reducible exact l09Code_prB0 ‹_›) | (with_reducible exact l01Code_prB0 ‹_›) | (with_reducible exact l01Numbers_prB0 ‹_›) | (with_reducible exact l01Lines_prB0 ‹_›) | (with_reducible exact field_prB ‹_›) | (with_reducible exact field_prB0 ‹_›) | (with_reducible exact l08Code_prB ‹_›) | (with_reducible exact l08Code_prB0 ‹_›) | (with_reducible exact l08Given_prB ‹_›) | (with_reducible exact l08Given_prB0 ‹_›) | (with_reducible exact l02Code_prB ‹_›) | (with_reducible exact l02Code_prB0 ‹_›) | (with_reducible exact l04Code_prB ‹_›) | (with_reducible exact l04Code_prB0 ‹_›) | (with_reducible exact triangle_prB ‹_›) | (with_reducible exact triangle_prB0 ‹_›) | (with_reducible exact l01Both_prB ‹_›) | (with_reducible exact l01Both_prB0 ‹_›) | (with_reducible exact sfield_prB0 ‹_›) | exact mk_ok (by (first | (with_reducible assumption) | (with_reducible exact asked_prB ‹_›) | (with_reducible exact l09Code_prB ‹_›) | (with_reducible exact l01Code_prB ‹_›) | (with_reducible exact l01Numbers_prB ‹_›) | (with_reducible exact l01Lines_prB ‹_›) | (with_reducible exact asked_prB0 ‹_›) | (with_reducible exact l09Code_prB0 ‹_›) | (with_reducible exact l01Code_prB0 ‹_›) | (with_reducible exact l01Numbers_prB0 ‹_›) | (with_reducible exact l01Lines_prB0 ‹_›) | (with_reducible exact field_prB ‹_›) | (with_reducible exact field_prB0 ‹_›) | (with_reducible exact l08Code_prB ‹_›) | (with_reducible exact l08Code_prB0 ‹_›) | (with_reducible exact l08Given_prB ‹_›) | (with_reducible exact l08Given_prB0 ‹_›) | (with_reducible exact l02Code_prB ‹_›) | (with_reducible exact l02Code_prB0 ‹_›) | (with_reducible exact l04Code_prB ‹_›) | (with_reducible exact l04Code_prB0 ‹_›) | (with_reducible exact triangle_prB ‹_›) | (with_reducible exact triangle_prB0 ‹_›) | (with_reducible exact l01Both_prB ‹_›) | (with_reducible exact l01Both_prB0 ‹_›) | (with_reducible exact sfield_prB0 ‹_›))) | exact and_all (by (first | (with_reducible assumption) | (with_reducible exact asked_prB ‹_›) | (with_reducible exact l09Code_prB ‹_›) | (with_reducible exact l01Code_prB ‹_›) | (with_reducible exact l01Numbers_prB ‹_›) | (with_reducible exact l01Lines_prB ‹_›) | (with_reducible exact asked_prB0 ‹_›) | (with_reducible exact l09Code_prB0 ‹_›) | (with_reducible exact l01Code_prB0 ‹_›) | (with_reducible exact l01Numbers_prB0 ‹_›) | (with_reducible exact l01Lines_prB0 ‹_›) | (with_reducible exact field_prB ‹_›) | (with_reducible exact field_prB0 ‹_›) | (with_reducible exact l08Code_prB ‹_›) | (with_reducible exact l08Code_prB0 ‹_›) | (with_reducible exact l08Given_prB ‹_›) | (with_reducible exact l08Given_prB0 ‹_›) | (with_reducible exact l02Code_prB ‹_›) | (with_reducible exact l02Code_prB0 ‹_›) | (with_reducible exact l04Code_prB ‹_›) | (with_reducible exact l04Code_prB0 ‹_›) | (with_reducible exact triangle_prB ‹_›) | (with_reducible exact triangle_prB0 ‹_›) | (with_reducible exact l01Both_prB ‹_›) | (with_reducible exact l01Both_prB0 ‹_›) | (with_reducible exact sfield_prB0 ‹_›))) (fun _ => rfl) | exact and_all (by (first | (with_reducible assumption) | (with_reducible exact asked_prB ‹_›) | (with_reducible exact l09Code_prB ‹_›) | (with_reducible exact l01Code_prB ‹_›) | (with_reducible exact l01Numbers_prB ‹_›) | (with_reducible exact l01Lines_prB ‹_›) | (with_reducible exact asked_prB0 ‹_›) | (with_reducible exact l09Code_prB0 ‹_›) | (with_reducible exact l01Code_prB0 ‹_›) | (with_reducible exact l01Numbers_prB0 ‹_›) | (with_reducible exact l01Lines_prB0 ‹_›) | (with_reducible exact field_prB ‹_›) | (with_reducible exact field_prB0 ‹_›) | (with_reducible exact l08Code_prB ‹_›) | (with_reducible exact l08Code_prB0 ‹_›) | (with_reducible exact l08Given_prB ‹_›) | (with_reducible exact l08Given_prB0 ‹_›) | (with_reducible exact l02Code_prB ‹_›) | (with_reducible exact l02Code_prB0 ‹_›) | (with_reducible exact l04Code_prB ‹_›) | (with_reducible exact l04Code_prB0 ‹_›) | (with_reducible exact triangle_prB ‹_›) | (with_reducible exact triangle_prB0 ‹_›) | (with_reducible exact l01Both_prB ‹_›) | (with_reducible exact l01Both_prB0 ‹_›) | (with_reducible exact sfield_prB0 ‹_›))) (fun _ => by (first | (with_reducible assumption) | (with_reducible exact asked_prB ‹_›) | (with_reducible exact l09Code_prB ‹_›) | (with_reducible exact l01Code_prB ‹_›) | (with_reducible exact l01Numbers_prB ‹_›) | (with_reducible exact l01Lines_prB ‹_›) | (with_reducible exact asked_prB0 ‹_›) | (with_reducible exact l09Code_prB0 ‹_›) | (with_reducible exact l01Code_prB0 ‹_›) | (with_reducible exact l01Numbers_prB0 ‹_›) | (with_reducible exact l01Lines_prB0 ‹_›) | (with_reducible exact field_prB ‹_›) | (with_reducible exact field_prB0 ‹_›) | (with_reducible exact l08Code_prB ‹_›) | (with_reducible exact l08Code_prB0 ‹_›) | (with_reducible exact l08Given_prB ‹_›) | (with_reducible exact l08Given_prB0 ‹_›) | (with_reducible exact l02Code_prB ‹_›) | (with_reducible exact l02Code_prB0 ‹_›) | (with_reducible exact l04Code_prB ‹_›) | (with_reducible exact l04Code_prB0 ‹_›) | (with_reducible exact triangle_prB ‹_›) | (with_reducible exact triangle_prB0 ‹_›) | (with_reducible exact l01Both_prB ‹_›) | (with_reducible exact l01Both_prB0 ‹_›) | (with_reducible exact sfield_prB0 ‹_›))) | exact and3 (by (first | (with_reducible assumption) | (with_reducible exact asked_prB ‹_›) | (with_reducible exact l09Code_prB ‹_›) | (with_reducible exact l01Code_prB ‹_›) | (with_reducible exact l01Numbers_prB ‹_›) | (with_reducible exact l01Lines_prB ‹_›) | (with_reducible exact asked_prB0 ‹_›) | (with_reducible exact l09Code_prB0 ‹_›) | (with_reducible exact l01Code_prB0 ‹_›) | (with_reducible exact l01Numbers_prB0 ‹_›) | (with_reducible exact l01Lines_prB0 ‹_›) | (with_reducible exact field_prB ‹_›) | (with_reducible exact field_prB0 ‹_›) | (with_reducible exact l08Code_prB ‹_›) | (with_reducible exact l08Code_prB0 ‹_›) | (with_reducible exact l08Given_prB ‹_›) | (with_reducible exact l08Given_prB0 ‹_›) | (with_reducible exact l02Code_prB ‹_›) | (with_reducible exact l02Code_prB0 ‹_›) | (with_reducible exact l04Code_prB ‹_›) | (with_reducible exact l04Code_prB0 ‹_›) | (with_reducible exact triangle_prB ‹_›) | (with_reducible exact triangle_prB0 ‹_›) | (with_reducible exact l01Both_prB ‹_›) | (with_reducible exact l01Both_prB0 ‹_›) | (with_reducible exact sfield_prB0 ‹_›))) (by (first | (with_reducible assumption) | (with_reducible exact asked_prB ‹_›) | (with_reducible exact l09Code_prB ‹_›) | (with_reducible exact l01Code_prB ‹_›) | (with_reducible exact l01Numbers_prB ‹_›) | (with_reducible exact l01Lines_prB ‹_›) | (with_reducible exact asked_prB0 ‹_›) | (with_reducible exact l09Code_prB0 ‹_›) | (with_reducible exact l01Code_prB0 ‹_›) | (with_reducible exact l01Numbers_prB0 ‹_›) | (with_reducible exact l01Lines_prB0 ‹_›) | (with_reducible exact field_prB ‹_›) | (with_reducible exact field_prB0 ‹_›) | (with_reducible exact l08Code_prB ‹_›) | (with_reducible exact l08Code_prB0 ‹_›) | (with_reducible exact l08Given_prB ‹_›) | (with_reducible exact l08Given_prB0 ‹_›) | (with_reducible exact l02Code_prB ‹_›) | (with_reducible exact l02Code_prB0 ‹_›) | (with_reducible exact l04Code_prB ‹_›) | (with_reducible exact l04Code_prB0 ‹_›) | (with_reducible exact triangle_prB ‹_›) | (with_reducible exact triangle_prB0 ‹_›) | (with_reducible exact l01Both_prB ‹_›) | (with_reducible exact l01Both_prB0 ‹_›) | (with_reducible exact sfield_prB0 ‹_›))) (by (first | (with_reducible assumption) | (with_reducible exact asked_prB ‹_›) | (with_reducible exact l09Code_prB ‹_›) | (with_reducible exact l01Code_prB ‹_›) | (with_reducible exact l01Numbers_prB ‹_›) | (with_reducible exact l01Lines_prB ‹_›) | (with_reducible exact asked_prB0 ‹_›) | (with_reducible exact l09Code_prB0 ‹_›) | (with_reducible exact l01Code_prB0 ‹_›) | (with_reducible exact l01Numbers_prB0 ‹_›) | (with_reducible exact l01Lines_prB0 ‹_›) | (with_reducible exact field_prB ‹_›) | (with_reducible exact field_prB0 ‹_›) | (with_reducible exact l08Code_prB ‹_›) | (with_reducible exact l08Code_prB0 ‹_›) | (with_reducible exact l08Given_prB ‹_›) | (with_reducible exact l08Given_prB0 ‹_›) | (with_reducible exact l02Code_prB ‹_›) | (with_reducible exact l02Code_prB0 ‹_›) | (with_reducible exact l04Code_prB ‹_›) | (with_reducible exact l04Code_prB0 ‹_›) | (with_reducible exact triangle_prB ‹_›) | (with_reducible exact triangle_prB0 ‹_›) | (with_reducible exact l01Both_prB ‹_›) | (with_reducible exact l01Both_prB0 ‹_›) | (with_reducible exact sfield_prB0 ‹_›))) | rfl) ?_ | refine ite_opt (fun _ => ?_) (fun _ => ?_) | exact lo2_s_PoleOf _ _ _ (by (first | (with_reducible assumption) | (with_reducible exact asked_prB ‹_›) | (with_reducible exact l09Code_prB ‹_›) | (with_reducible exact l01Code_prB ‹_›) | (with_reducible exact l01Numbers_prB ‹_›) | (with_reducible exact l01Lines_prB ‹_›) | (with_reducible exact asked_prB0 ‹_›) | (with_reducible exact l09Code_prB0 ‹_›) | (with_reducible exact l01Code_prB0 ‹_›) | (with_reducible exact l01Numbers_prB0 ‹_›) | (with_reducible exact l01Lines_prB0 ‹_›) | (with_reducible exact field_prB ‹_›) | (with_reducible exact field_prB0 ‹_›) | (with_reducible exact l08Code_prB ‹_›) | (with_reducible exact l08Code_prB0 ‹_›) | (with_reducible exact l08Given_prB ‹_›) | (with_reducible exact l08Given_prB0 ‹_›) | (with_reducible exact l02Code_prB ‹_›) | (with_reducible exact l02Code_prB0 ‹_›) | (with_reducible exact l04Code_prB ‹_›) | (with_reducible exact l04Code_prB0 ‹_›) | (with_reducible exact triangle_prB ‹_›) | (with_reducible exact triangle_prB0 ‹_›) | (with_reducible exact l01Both_prB ‹_›) | (with_reducible exact l01Both_prB0 ‹_›) | (with_reducible exact sfield_prB0 ‹_›))) (by omega) | exact lo6_s_PoleOf _ _ _ (by (first | (with_reducible assumption) | (with_reducible exact asked_prB ‹_›) | (with_reducible exact l09Code_prB ‹_›) | (with_reducible exact l01Code_prB ‹_›) | (with_reducible exact l01Numbers_prB ‹_›) | (with_reducible exact l01Lines_prB ‹_›) | (with_reducible exact asked_prB0 ‹_›) | (with_reducible exact l09Code_prB0 ‹_›) | (with_reducible exact l01Code_prB0 ‹_›) | (with_reducible exact l01Numbers_prB0 ‹_›) | (with_reducible exact l01Lines_prB0 ‹_›) | (with_reducible exact field_prB ‹_›) | (with_reducible exact field_prB0 ‹_›) | (with_reducible exact l08Code_prB ‹_›) | (with_reducible exact l08Code_prB0 ‹_›) | (with_reducible exact l08Given_prB ‹_›) | (with_reducible exact l08Given_prB0 ‹_›) | (with_reducible exact l02Code_prB ‹_›) | (with_reducible exact l02Code_prB0 ‹_›) | (with_reducible exact l04Code_prB ‹_›) | (with_reducible exact l04Code_prB0 ‹_›) | (with_reducible exact triangle_prB ‹_›) | (with_reducible exact triangle_prB0 ‹_›) | (with_reducible exact l01Both_prB ‹_›) | (with_reducible exact l01Both_prB0 ‹_›) | (with_reducible exact sfield_prB0 ‹_›))) (by omega) | exact lo10_s_PoleOf _ _ _ (by (first | (with_reducible assumption) | (with_reducible exact asked_prB ‹_›) | (with_reducible exact l09Code_prB ‹_›) | (with_reducible exact l01Code_prB ‹_›) | (with_reducible exact l01Numbers_prB ‹_›) | (with_reducible exact l01Lines_prB ‹_›) | (with_reducible exact asked_prB0 ‹_›) | (with_reducible exact l09Code_prB0 ‹_›) | (with_reducible exact l01Code_prB0 ‹_›) | (with_reducible exact l01Numbers_prB0 ‹_›) | (with_reducible exact l01Lines_prB0 ‹_›) | (with_reducible exact field_prB ‹_›) | (with_reducible exact field_prB0 ‹_›) | (with_reducible exact l08Code_prB ‹_›) | (with_reducible exact l08Code_prB0 ‹_›) | (with_reducible exact l08Given_prB ‹_›) | (with_reducible exact l08Given_prB0 ‹_›) | (with_reducible exact l02Code_prB ‹_›) | (with_reducible exact l02Code_prB0 ‹_›) | (with_reducible exact l04Code_prB ‹_›) | (with_reducible exact l04Code_prB0 ‹_›) | (with_reducible exact triangle_prB ‹_›) | (with_reducible exact triangle_prB0 ‹_›) | (with_reducible exact l01Both_prB ‹_›) | (with_reducible exact l01Both_prB0 ‹_›) | (with_reducible exact sfield_prB0 ‹_›))) (by omega) | exact lo14_s_PoleOf _ _ _ (by (first | (with_reducible assumption) | (with_reducible exact asked_prB ‹_›) | (with_reducible exact l09Code_prB ‹_›) | (with_reducible exact l01Code_prB ‹_›) | (with_reducible exact l01Numbers_prB ‹_›) | (with_reducible exact l01Lines_prB ‹_›) | (with_reducible exact asked_prB0 ‹_›) | (with_reducible exact l09Code_prB0 ‹_›) | (with_reducible exact l01Code_prB0 ‹_›) | (with_reducible exact l01Numbers_prB0 ‹_›) | (with_reducible exact l01Lines_prB0 ‹_›) | (with_reducible exact field_prB ‹_›) | (with_reducible exact field_prB0 ‹_›) | (with_reducible exact l08Code_prB ‹_›) | (with_reducible exact l08Code_prB0 ‹_›) | (with_reducible exact l08Given_prB ‹_›) | (with_reducible exact l08Given_prB0 ‹_›) | (with_reducible exact l02Code_prB ‹_›) | (with_reducible exact l02Code_prB0 ‹_›) | (with_reducible exact l04Code_prB ‹_›) | (with_reducible exact l04Code_prB0 ‹_›) | (with_reducible exact triangle_prB ‹_›) | (with_reducible exact triangle_prB0 ‹_›) | (with_reducible exact l01Both_prB ‹_›) | (with_reducible exact l01Both_prB0 ‹_›) | (with_reducible exact sfield_prB0 ‹_›))) (by omega) | rfl)
def run_s_PoleOf : List PV → Option (Bool × List TR)
  | [.v (.int .i64 p), .v (.agg ⟨[.int .i64 k0, .int .i64 k1, .int .i64 k2, .int .i64 k3, .int .i64 k4, .int .i64 k5]⟩), .v (.agg ⟨[.int .i64 l0, .int .i64 l1, .int .i64 l2]⟩)] => some (true, enc_a2_i (s_PoleOf p (k0, k1, k2, k3, k4, k5) (l0, l1, l2)))
  | _ => none
theorem sound_s_PoleOf : Sound Try.prog 40 run_s_PoleOf := by
  refine sound_of de_a2_i SO_s_PoleOf (by kernel_rfl) Try.func40 Try.ntmps40 rfl (by kernel_rfl) ?_
  intro W pvs avs rs hargs hrun
  unfold run_s_PoleOf at hrun
  split at hrun
  · simp only [Option.some.injEq, Prod.mk.injEq] at hrun
    obtain ⟨hp, rfl⟩ := hrun
    rename_i p k0 k1 k2 k3 k4 k5 l0 l1 l2
    exact ⟨_, _, _, hargs, rfl, (eq_s_PoleOf _ p (k0, k1, k2, k3, k4, k5) (l0, l1, l2)).trans (tot_s_PoleOf p (k0, k1, k2, k3, k4, k5) (l0, l1, l2))⟩
  · cases hrun

def S_i_PoleOf_c1 : Sums := ⟨tblS [(52, run_i_isConic), (85, run_i_isLine)], tblM []⟩
theorem SO_i_PoleOf_c1 : SumsOK Try.prog S_i_PoleOf_c1 := ⟨tblS_ok ⟨⟨Try.call52, sound_i_isConic⟩, ⟨Try.call85, sound_i_isLine⟩, True.intro⟩, tblM_ok True.intro⟩
def Fo_i_PoleOf_c1 (c0 : Int) (c1 : Int × Int × Int × Int × Int × Int) (c2 : Int × Int × Int) : Option (Bool) :=
  (if (i_isConic c0 c1) = true then some (i_isLine c0 c2) else some false)
theorem eq_i_PoleOf_c1 (c0 : Int) (c1 : Int × Int × Int × Int × Int × Int) (c2 : Int × Int × Int) : execT Try.prog S_i_PoleOf_c1 84 12 (fun _ => 1000000) dec_b [.p [.int .i64 c0], .p [.int .i64 c1.1, .int .i64 c1.2.1, .int .i64 c1.2.2.1, .int .i64 c1.2.2.2.1, .int .i64 c1.2.2.2.2.1, .int .i64 c1.2.2.2.2.2], .p [.int .i64 c2.1, .int .i64 c2.2.1, .int .i64 c2.2.2]] = Fo_i_PoleOf_c1 c0 c1 c2 := by
  kernel_rfl
def i_PoleOf_c1 (c0 : Int) (c1 : Int × Int × Int × Int × Int × Int) (c2 : Int × Int × Int) : Bool :=
  (if (i_isConic c0 c1) = true then (i_isLine c0 c2) else false)
theorem tot_i_PoleOf_c1 (c0 : Int) (c1 : Int × Int × Int × Int × Int × Int) (c2 : Int × Int × Int) : Fo_i_PoleOf_c1 c0 c1 c2 = some (i_PoleOf_c1 c0 c1 c2) := by
  unfold Fo_i_PoleOf_c1 i_PoleOf_c1
  (try simp only [wI_eq])
  repeat' (first | with_reducible rfl | refine ite_opt (fun _ => ?_) (fun _ => ?_) | rfl)
def run_i_PoleOf_c1 : List PV → Option (Bool × List TR)
  | [.p [.int .i64 c0], .p [.int .i64 c10, .int .i64 c11, .int .i64 c12, .int .i64 c13, .int .i64 c14, .int .i64 c15], .p [.int .i64 c20, .int .i64 c21, .int .i64 c22]] => some (true, enc_b (i_PoleOf_c1 c0 (c10, c11, c12, c13, c14, c15) (c20, c21, c22)))
  | _ => none
theorem sound_i_PoleOf_c1 : Sound Try.prog 84 run_i_PoleOf_c1 := by
  refine sound_of de_b SO_i_PoleOf_c1 (by kernel_rfl) Try.func84 Try.ntmps84 rfl (by kernel_rfl) ?_
  intro W pvs avs rs hargs hrun
  unfold run_i_PoleOf_c1 at hrun
  split at hrun
  · simp only [Option.some.injEq, Prod.mk.injEq] at hrun
    obtain ⟨hp, rfl⟩ := hrun
    rename_i c0 c10 c11 c12 c13 c14 c15 c20 c21 c22
    exact ⟨_, _, _, hargs, rfl, (eq_i_PoleOf_c1 c0 (c10, c11, c12, c13, c14, c15) (c20, c21, c22)).trans (tot_i_PoleOf_c1 c0 (c10, c11, c12, c13, c14, c15) (c20, c21, c22))⟩
  · cases hrun

def S_i_PoleOf : Sums := ⟨tblS [(55, run_i_asked), (84, run_i_PoleOf_c1), (57, run_i_determinant), (79, run_i_allPoints), (75, run_i_polarLine)], tblM []⟩
theorem SO_i_PoleOf : SumsOK Try.prog S_i_PoleOf := ⟨tblS_ok ⟨⟨Try.call55, sound_i_asked⟩, ⟨Try.call84, sound_i_PoleOf_c1⟩, ⟨Try.call57, sound_i_determinant⟩, ⟨Try.call79, sound_i_allPoints⟩, ⟨Try.call75, sound_i_polarLine⟩, True.intro⟩, tblM_ok True.intro⟩
def T_i_PoleOf_0 (p : Int) (k : Int × Int × Int × Int × Int × Int) (l : Int × Int × Int) (t28 : Int) : Tab := ⟨[.val (.int .i64 p), .val (.agg ⟨[.int .i64 k.1, .int .i64 k.2.1, .int .i64 k.2.2.1, .int .i64 k.2.2.2.1, .int .i64 k.2.2.2.2.1, .int .i64 k.2.2.2.2.2]⟩), .val (.agg ⟨[.int .i64 l.1, .int .i64 l.2.1, .int .i64 l.2.2]⟩), .ptr 12 0, .ptr 16 0, .ptr 20 0, .ptr 24 0, .val (.int .i64 0), .val (.int .i64 (i_asked p (true) (i_PoleOf_c1 p k l))), .junk, .junk, .junk, .junk, .val (.int .i64 p), .clo 84 [12, 16, 20], .val (.int .i64 (i_asked p (true) (i_PoleOf_c1 p k l))), .val (.int .i64 (i_asked p (true) (i_PoleOf_c1 p k l))), .val (.bool ((i_asked p (true) (i_PoleOf_c1 p k l)) != 0)), .junk, .junk, .val (.int .i64 p), .val (.agg ⟨[.int .i64 k.1, .int .i64 k.2.1, .int .i64 k.2.2.1, .int .i64 k.2.2.2.1, .int .i64 k.2.2.2.2.1, .int .i64 k.2.2.2.2.2]⟩), .val (.int .i64 (i_determinant p k)), .val (.bool ((i_determinant p k) == 0)), .junk, .val (.int .i64 p), .row 104, .val (.int .i64 (((i_allPoints p).1 : Nat) : Int)), .val (.int .i64 t28), .junk, .junk, .junk, .junk, .junk, .junk, .junk, .junk, .junk, .junk, .junk, .junk, .junk, .junk, .junk, .junk, .junk, .junk, .junk], [(12, .box 2 [.val (.int .i64 p)]), (16, .box 25 [.val (.int .i64 k.1), .val (.int .i64 k.2.1), .val (.int .i64 k.2.2.1), .val (.int .i64 k.2.2.2.1), .val (.int .i64 k.2.2.2.2.1), .val (.int .i64 k.2.2.2.2.2)]), (20, .box 44 [.val (.int .i64 l.1), .val (.int .i64 l.2.1), .val (.int .i64 l.2.2)]), (24, .box 47 [.val (.int .i64 0), .val (.int .i64 0)]), (104, .row 47 2 ((i_allPoints p).1) (.ints ((i_allPoints p).2)))]⟩
def X_i_PoleOf_0 (P : Program) (fu : Nat) (p : Int) (k : Int × Int × Int × Int × Int × Int) (l : Int × Int × Int) (f : Nat) (t28 : Int) : Option ((Int × Int) × Int) := loopK (exec P S_i_PoleOf 48 (fun _ => fu + 100) (Code.sub [1, 1, 1, 0, 1, 0, 0] (bodyF P 42))) f (T_i_PoleOf_0 p k l t28) (kBlock 0 (kSeq (fun s => exec P S_i_PoleOf 48 (fun _ => fu + 100) (Code.sub [1, 1, 1, 1] (bodyF P 42)) s (finT P 42 dec_a2_i)) (finT P 42 dec_a2_i)))
def B_i_PoleOf_0 (p : Int) (k : Int × Int × Int × Int × Int × Int) (l : Int × Int × Int) (rec0 : Int → Option ((Int × Int) × Int)) (t28 : Int) : Option ((Int × Int) × Int) :=
  (if (decide (t28 < (((i_allPoints p).1 : Nat) : Int))) = true then (if (decide (0 ≤ t28) && decide (t28 < (((i_allPoints p).1 : Nat) : Int))) = true then (if (Nat.ble (t28.toNat * 2 + 2) (((i_allPoints p).2).length)) = true then (if (prB p) = true then (if ((i_polarLine p k (((i_allPoints p).2).getD (t28.toNat * 2 + 0) 0, ((i_allPoints p).2).getD (t28.toNat * 2 + 1) 0)).2) = true then (if (((i_polarLine p k (((i_allPoints p).2).getD (t28.toNat * 2 + 0) 0, ((i_allPoints p).2).getD (t28.toNat * 2 + 1) 0)).1) == l) = true then some ((((i_allPoints p).2).getD (t28.toNat * 2 + 0) 0, ((i_allPoints p).2).getD (t28.toNat * 2 + 1) 0), 0) else rec0 (wI (t28 + 1))) else rec0 (wI (t28 + 1))) else none) else none) else none) else some ((0, 0), 4))
def L_i_PoleOf_0 (fu : Nat) (p : Int) (k : Int × Int × Int × Int × Int × Int) (l : Int × Int × Int) : Nat → Int → Option ((Int × Int) × Int)
  | 0, _ => none
  | f + 1, t28 => B_i_PoleOf_0 p k l (L_i_PoleOf_0 fu p k l f) t28
theorem loop_i_PoleOf_0 (fu : Nat) (p : Int) (k : Int × Int × Int × Int × Int × Int) (l : Int × Int × Int) : ∀ (f : Nat) (t28 : Int), X_i_PoleOf_0 Try.prog fu p k l f t28 = L_i_PoleOf_0 fu p k l f t28 := by
  intro f
  induction f with
  | zero => intros; rfl
  | succ f ih =>
    intro t28
    have h1 : X_i_PoleOf_0 Try.prog fu p k l (f + 1) t28 = B_i_PoleOf_0 p k l (X_i_PoleOf_0 Try.prog fu p k l f) t28 := by kernel_rfl
    have h2 : X_i_PoleOf_0 Try.prog fu p k l f = L_i_PoleOf_0 fu p k l f := by funext t28; exact ih t28
    rw [h1, h2]
    rfl
def G_i_PoleOf (p : Int) (k : Int × Int × Int × Int × Int × Int) (l : Int × Int × Int) (lo0 : Int → Option ((Int × Int) × Int)) : Option ((Int × Int) × Int) :=
  (if ((true) || !(i_IsField p)) = true then (if ((i_asked p (true) (i_PoleOf_c1 p k l)) != 0) = true then some ((0, 0), (i_asked p (true) (i_PoleOf_c1 p k l))) else (if (prB p) = true then (if ((i_determinant p k) == 0) = true then some ((0, 0), 5) else (if (prB p) = true then lo0 0 else none)) else none)) else none)
def Fo_i_PoleOf (fu : Nat) (p : Int) (k : Int × Int × Int × Int × Int × Int) (l : Int × Int × Int) : Option ((Int × Int) × Int) := G_i_PoleOf p k l (L_i_PoleOf_0 fu p k l (fu + 100))
theorem eqg_i_PoleOf (fu : Nat) (p : Int) (k : Int × Int × Int × Int × Int × Int) (l : Int × Int × Int) : execT Try.prog S_i_PoleOf 42 48 (fun _ => fu + 100) dec_a2_i [.v (.int .i64 p), .v (.agg ⟨[.int .i64 k.1, .int .i64 k.2.1, .int .i64 k.2.2.1, .int .i64 k.2.2.2.1, .int .i64 k.2.2.2.2.1, .int .i64 k.2.2.2.2.2]⟩), .v (.agg ⟨[.int .i64 l.1, .int .i64 l.2.1, .int .i64 l.2.2]⟩)] = G_i_PoleOf p k l (L_i_PoleOf_0 fu p k l (fu + 100)) := by
  have h1 : execT Try.prog S_i_PoleOf 42 48 (fun _ => fu + 100) dec_a2_i [.v (.int .i64 p), .v (.agg ⟨[.int .i64 k.1, .int .i64 k.2.1, .int .i64 k.2.2.1, .int .i64 k.2.2.2.1, .int .i64 k.2.2.2.2.1, .int .i64 k.2.2.2.2.2]⟩), .v (.agg ⟨[.int .i64 l.1, .int .i64 l.2.1, .int .i64 l.2.2]⟩)] = G_i_PoleOf p k l (X_i_PoleOf_0 Try.prog fu p k l (fu + 100)) := by kernel_rfl
  have c0 : X_i_PoleOf_0 Try.prog fu p k l (fu + 100) = L_i_PoleOf_0 fu p k l (fu + 100) := by funext t28; exact loop_i_PoleOf_0 fu p k l (fu + 100) t28
  rw [h1, c0]
theorem eq_i_PoleOf (fu : Nat) (p : Int) (k : Int × Int × Int × Int × Int × Int) (l : Int × Int × Int) : execT Try.prog S_i_PoleOf 42 48 (fun _ => fu + 100) dec_a2_i [.v (.int .i64 p), .v (.agg ⟨[.int .i64 k.1, .int .i64 k.2.1, .int .i64 k.2.2.1, .int .i64 k.2.2.2.1, .int .i64 k.2.2.2.2.1, .int .i64 k.2.2.2.2.2]⟩), .v (.agg ⟨[.int .i64 l.1, .int .i64 l.2.1, .int .i64 l.2.2]⟩)] = Fo_i_PoleOf fu p k l := eqg_i_PoleOf fu p k l
def V_i_PoleOf_0 (p : Int) (k : Int × Int × Int × Int × Int × Int) (l : Int × Int × Int) : Int → (Int × Int) × Int := fun _ => ((((pts p).findSome? fun zz => if ((i_polarLine p k zz).2 && ((i_polarLine p k zz).1 == l)) = true then some (zz, (0 : Int)) else none)).getD ((0, 0), 4))
theorem lo0_i_PoleOf (p : Int) (k_ : P6) (l : P3) (hp : prB p = true) {F : Nat} (hF : 993 < F) : L_i_PoleOf_0 1000000 p k_ l F 0 = some ((((pts p).findSome? fun zz => if ((i_polarLine p k_ zz).2 && ((i_polarLine p k_ zz).1 == l)) = true then some ((zz, (0 : Int))) else none)).getD ((0, 0), 4)) := by
  have hlen : (pts p).length ≤ 993 := Nat.le_trans (pts_len hp) (by omega)
  have h := seek (L := fun f i => L_i_PoleOf_0 1000000 p k_ l f i) (n := (pts p).length) (F := F) (q := fun k => if ((i_polarLine p k_ (R2 (flat2 (pts p)) k)).2 && ((i_polarLine p k_ (R2 (flat2 (pts p)) k)).1 == l)) = true then some (((R2 (flat2 (pts p)) k), (0 : Int))) else none) (e := ((0, 0), 4)) (by omega)
    (fun f k hk => by
      show B_i_PoleOf_0 p k_ l (L_i_PoleOf_0 1000000 p k_ l f) (k : Int) = _
      unfold B_i_PoleOf_0
      have e0 : decide (0 ≤ (k : Int)) = true := by simp
      have e1 := cnd hk
      have e3 : (k : Int).toNat = k := Int.toNat_natCast k
      have e4 := row2_ok (flat2_len _) hk
      rw [show i_allPoints p = ((pts p).length, flat2 (pts p)) from rfl]
      simp only [e0, e1, e3, e4, hp, Bool.and_true, Bool.true_and, if_true, wrap_add1 hk (by omega)]
      have hr : ((flat2 (pts p)).getD (k * 2 + 0) 0, (flat2 (pts p)).getD (k * 2 + 1) 0) = R2 (flat2 (pts p)) k := rfl
      try simp only [hr]
      generalize ((i_polarLine p k_ (R2 (flat2 (pts p)) k)).2) = c0
      generalize (((i_polarLine p k_ (R2 (flat2 (pts p)) k)).1 == l)) = c1
      cases c0 <;> cases c1 <;> rfl)
    (fun f => by
      show B_i_PoleOf_0 p k_ l (L_i_PoleOf_0 1000000 p k_ l f) (((pts p).length : Nat) : Int) = _
      unfold B_i_PoleOf_0
      rw [show i_allPoints p = ((pts p).length, flat2 (pts p)) from rfl]
      rw [if_neg (by simp)])
  have h2 := find_row (pts p) (0, 0) (fun zz => if ((i_polarLine p k_ zz).2 && ((i_polarLine p k_ zz).1 == l)) = true then some ((zz, (0 : Int))) else none)
  rw [← h2]
  simp only [← R2_flat]
  exact h

def i_PoleOf (p : Int) (k : Int × Int × Int × Int × Int × Int) (l : Int × Int × Int) : (Int × Int) × Int :=
  (if ((i_asked p (true) (i_PoleOf_c1 p k l)) != 0) = true then ((0, 0), (i_asked p (true) (i_PoleOf_c1 p k l))) else (if ((i_determinant p k) == 0) = true then ((0, 0), 5) else V_i_PoleOf_0 p k l 0))
theorem tot_i_PoleOf (p : Int) (k : Int × Int × Int × Int × Int × Int) (l : Int × Int × Int) : Fo_i_PoleOf 1000000 p k l = some (i_PoleOf p k l) := by
  unfold Fo_i_PoleOf G_i_PoleOf i_PoleOf
  (try simp only [wI_eq])
  repeat' (first | with_reducible rfl | refine chk_opt (by first | with_reducible rfl | exact Bool.true_or _ | (with_reducible exact asked_prB ‹_›) | (with_reducible exact l09Code_prB ‹_›) | (with_reducible exact l01Code_prB ‹_›) | (with_reducible exact l01Numbers_prB ‹_›) | (with_reducible exact l01Lines_prB ‹_›) | (with_reducible exact asked_prB0 ‹_›) | (with_reducible exact l09Code_prB0 ‹_›) | (with_reducible exact l01Code_prB0 ‹_›) | (with_reducible exact l01Numbers_prB0 ‹_›) | (with_reducible exact l01Lines_prB0 ‹_›) | (with_reducible exact field_prB ‹_›) | (with_reducible exact field_prB0 ‹_›) | (with_reducible exact l08Code_prB ‹_›) | (with_reducible exact l08Code_prB0 ‹_›) | (with_reducible exact l08Given_prB ‹_›) | (with_reducible exact l08Given_prB0 ‹_›) | (with_reducible exact l02Code_prB ‹_›) | (with_reducible exact l02Code_prB0 ‹_›) | (with_reducible exact l04Code_prB ‹_›) | (with_reducible exact l04Code_prB0 ‹_›) | (with_reducible exact triangle_prB ‹_›) | (with_reducible exact triangle_prB0 ‹_›) | (with_reducible exact l01Both_prB ‹_›) | (with_reducible exact l01Both_prB0 ‹_›) | (with_reducible exact sfield_prB0 ‹_›) | exact mk_ok (by (first | (with_reducible assumption) | (with_reducible exact asked_prB ‹_›) | (with_reducible exact l09Code_prB ‹_›) | (with_reducible exact l01Code_prB ‹_›) | (with_reducible exact l01Numbers_prB ‹_›) | (with_reducible exact l01Lines_prB ‹_›) | (with_reducible exact asked_prB0 ‹_›) | (with_reducible exact l09Code_prB0 ‹_›) | (with_reducible exact l01Code_prB0 ‹_›) | (with_reducible exact l01Numbers_prB0 ‹_›) | (with_reducible exact l01Lines_prB0 ‹_›) | (with_reducible exact field_prB ‹_›) | (with_reducible exact field_prB0 ‹_›) | (with_reducible exact l08Code_prB ‹_›) | (with_reducible exact l08Code_prB0 ‹_›) | (with_reducible exact l08Given_prB ‹_›) | (with_reducible exact l08Given_prB0 ‹_›) | (with_reducible exact l02Code_prB ‹_›) | (with_reducible exact l02Code_prB0 ‹_›) | (with_reducible exact l04Code_prB ‹_›) | (with_reducible exact l04Code_prB0 ‹_›) | (with_reducible exact triangle_prB ‹_›) | (with_reducible exact triangle_prB0 ‹_›) | (with_reducible exact l01Both_prB ‹_›) | (with_reducible exact l01Both_prB0 ‹_›) | (with_reducible exact sfield_prB0 ‹_›))) | exact and_all (by (first | (with_reducible assumption) | (with_reducible exact asked_prB ‹_›) | (with_reducible exact l09Code_prB ‹_›) | (with_reducible exact l01Code_prB ‹_›) | (with_reducible exact l01Numbers_prB ‹_›) | (with_reducible exact l01Lines_prB ‹_›) | (with_reducible exact asked_prB0 ‹_›) | (with_reducible exact l09Code_prB0 ‹_›) | (with_reducible exact l01Code_prB0 ‹_›) | (with_reducible exact l01Numbers_prB0 ‹_›) | (with_reducible exact l01Lines_prB0 ‹_›) | (with_reducible exact field_prB ‹_›) | (with_reducible exact field_prB0 ‹_›) | (with_reducible exact l08Code_prB ‹_›) | (with_reducible exact l08Code_prB0 ‹_›) | (with_reducible exact l08Given_prB ‹_›) | (with_reducible exact l08Given_prB0 ‹_›) | (with_reducible exact l02Code_prB ‹_›) | (with_reducible exact l02Code_prB0 ‹_›) | (with_reducible exact l04Code_prB ‹_›) | (with_reducible exact l04Code_prB0 ‹_›) | (with_reducible exact triangle_prB ‹_›) | (with_reducible exact triangle_prB0 ‹_›) | (with_reducible exact l01Both_prB ‹_›) | (with_reducible exact l01Both_prB0 ‹_›) | (with_reducible exact sfield_prB0 ‹_›))) (fun _ => rfl) | exact and_all (by (first | (with_reducible assumption) | (with_reducible exact asked_prB ‹_›) | (with_reducible exact l09Code_prB ‹_›) | (with_reducible exact l01Code_prB ‹_›) | (with_reducible exact l01Numbers_prB ‹_›) | (with_reducible exact l01Lines_prB ‹_›) | (with_reducible exact asked_prB0 ‹_›) | (with_reducible exact l09Code_prB0 ‹_›) | (with_reducible exact l01Code_prB0 ‹_›) | (with_reducible exact l01Numbers_prB0 ‹_›) | (with_reducible exact l01Lines_prB0 ‹_›) | (with_reducible exact field_prB ‹_›) | (with_reducible exact field_prB0 ‹_›) | (with_reducible exact l08Code_prB ‹_›) | (with_reducible exact l08Code_prB0 ‹_›) | (with_reducible exact l08Given_prB ‹_›) | (with_reducible exact l08Given_prB0 ‹_›) | (with_reducible exact l02Code_prB ‹_›) | (with_reducible exact l02Code_prB0 ‹_›) | (with_reducible exact l04Code_prB ‹_›) | (with_reducible exact l04Code_prB0 ‹_›) | (with_reducible exact triangle_prB ‹_›) | (with_reducible exact triangle_prB0 ‹_›) | (with_reducible exact l01Both_prB ‹_›) | (with_reducible exact l01Both_prB0 ‹_›) | (with_reducible exact sfield_prB0 ‹_›))) (fun _ => by (first | (with_reducible assumption) | (with_reducible exact asked_prB ‹_›) | (with_reducible exact l09Code_prB ‹_›) | (with_reducible exact l01Code_prB ‹_›) | (with_reducible exact l01Numbers_prB ‹_›) | (with_reducible exact l01Lines_prB ‹_›) | (with_reducible exact asked_prB0 ‹_›) | (with_reducible exact l09Code_prB0 ‹_›) | (with_reducible exact l01Code_prB0 ‹_›) | (with_reducible exact l01Numbers_prB0 ‹_›) | (with_reducible exact l01Lines_prB0 ‹_›) | (with_reducible exact field_prB ‹_›) | (with_reducible exact field_prB0 ‹_›) | (with_reducible exact l08Code_prB ‹_›) | (with_reducible exact l08Code_prB0 ‹_›) | (with_reducible exact l08Given_prB ‹_›) | (with_reducible exact l08Given_prB0 ‹_›) | (with_reducible exact l02Code_prB ‹_›) | (with_reducible exact l02Code_prB0 ‹_›) | (with_reducible exact l04Code_prB ‹_›) | (with_reducible exact l04Code_prB0 ‹_›) | (with_reducible exact triangle_prB ‹_›) | (with_reducible exact triangle_prB0 ‹_›) | (with_reducible exact l01Both_prB ‹_›) | (with_reducible exact l01Both_prB0 ‹_›) | (with_reducible exact sfield_prB0 ‹_›))) | exact and3 (by (first | (with_reducible assumption) | (with_reducible exact asked_prB ‹_›) | (with_reducible exact l09Code_prB ‹_›) | (with_reducible exact l01Code_prB ‹_›) | (with_reducible exact l01Numbers_prB ‹_›) | (with_reducible exact l01Lines_prB ‹_›) | (with_reducible exact asked_prB0 ‹_›) | (with_reducible exact l09Code_prB0 ‹_›) | (with_reducible exact l01Code_prB0 ‹_›) | (with_reducible exact l01Numbers_prB0 ‹_›) | (with_reducible exact l01Lines_prB0 ‹_›) | (with_reducible exact field_prB ‹_›) | (with_reducible exact field_prB0 ‹_›) | (with_reducible exact l08Code_prB ‹_›) | (with_reducible exact l08Code_prB0 ‹_›) | (with_reducible exact l08Given_prB ‹_›) | (with_reducible exact l08Given_prB0 ‹_›) | (with_reducible exact l02Code_prB ‹_›) | (with_reducible exact l02Code_prB0 ‹_›) | (with_reducible exact l04Code_prB ‹_›) | (with_reducible exact l04Code_prB0 ‹_›) | (with_reducible exact triangle_prB ‹_›) | (with_reducible exact triangle_prB0 ‹_›) | (with_reducible exact l01Both_prB ‹_›) | (with_reducible exact l01Both_prB0 ‹_›) | (with_reducible exact sfield_prB0 ‹_›))) (by (first | (with_reducible assumption) | (with_reducible exact asked_prB ‹_›) | (with_reducible exact l09Code_prB ‹_›) | (with_reducible exact l01Code_prB ‹_›) | (with_reducible exact l01Numbers_prB ‹_›) | (with_reducible exact l01Lines_prB ‹_›) | (with_reducible exact asked_prB0 ‹_›) | (with_reducible exact l09Code_prB0 ‹_›) | (with_reducible exact l01Code_prB0 ‹_›) | (with_reducible exact l01Numbers_prB0 ‹_›) | (with_reducible exact l01Lines_prB0 ‹_›) | (with_reducible exact field_prB ‹_›) | (with_reducible exact field_prB0 ‹_›) | (with_reducible exact l08Code_prB ‹_›) | (with_reducible exact l08Code_prB0 ‹_›) | (with_reducible exact l08Given_prB ‹_›) | (with_reducible exact l08Given_prB0 ‹_›) | (with_reducible exact l02Code_prB ‹_›) | (with_reducible exact l02Code_prB0 ‹_›) | (with_reducible exact l04Code_prB ‹_›) | (with_reducible exact l04Code_prB0 ‹_›) | (with_reducible exact triangle_prB ‹_›) | (with_reducible exact triangle_prB0 ‹_›) | (with_reducible exact l01Both_prB ‹_›) | (with_reducible exact l01Both_prB0 ‹_›) | (with_reducible exact sfield_prB0 ‹_›))) (by (first | (with_reducible assumption) | (with_reducible exact asked_prB ‹_›) | (with_reducible exact l09Code_prB ‹_›) | (with_reducible exact l01Code_prB ‹_›) | (with_reducible exact l01Numbers_prB ‹_›) | (with_reducible exact l01Lines_prB ‹_›) | (with_reducible exact asked_prB0 ‹_›) | (with_reducible exact l09Code_prB0 ‹_›) | (with_reducible exact l01Code_prB0 ‹_›) | (with_reducible exact l01Numbers_prB0 ‹_›) | (with_reducible exact l01Lines_prB0 ‹_›) | (with_reducible exact field_prB ‹_›) | (with_reducible exact field_prB0 ‹_›) | (with_reducible exact l08Code_prB ‹_›) | (with_reducible exact l08Code_prB0 ‹_›) | (with_reducible exact l08Given_prB ‹_›) | (with_reducible exact l08Given_prB0 ‹_›) | (with_reducible exact l02Code_prB ‹_›) | (with_reducible exact l02Code_prB0 ‹_›) | (with_reducible exact l04Code_prB ‹_›) | (with_reducible exact l04Code_prB0 ‹_›) | (with_reducible exact triangle_prB ‹_›) | (with_reducible exact triangle_prB0 ‹_›) | (with_reducible exact l01Both_prB ‹_›) | (with_reducible exact l01Both_prB0 ‹_›) | (with_reducible exact sfield_prB0 ‹_›))) | rfl) ?_ | refine ite_opt (fun _ => ?_) (fun _ => ?_) | exact lo0_i_PoleOf _ _ _ (by (first | (with_reducible assumption) | (with_reducible exact asked_prB ‹_›) | (with_reducible exact l09Code_prB ‹_›) | (with_reducible exact l01Code_prB ‹_›) | (with_reducible exact l01Numbers_prB ‹_›) | (with_reducible exact l01Lines_prB ‹_›) | (with_reducible exact asked_prB0 ‹_›) | (with_reducible exact l09Code_prB0 ‹_›) | (with_reducible exact l01Code_prB0 ‹_›) | (with_reducible exact l01Numbers_prB0 ‹_›) | (with_reducible exact l01Lines_prB0 ‹_›) | (with_reducible exact field_prB ‹_›) | (with_reducible exact field_prB0 ‹_›) | (with_reducible exact l08Code_prB ‹_›) | (with_reducible exact l08Code_prB0 ‹_›) | (with_reducible exact l08Given_prB ‹_›) | (with_reducible exact l08Given_prB0 ‹_›) | (with_reducible exact l02Code_prB ‹_›) | (with_reducible exact l02Code_prB0 ‹_›) | (with_reducible exact l04Code_prB ‹_›) | (with_reducible exact l04Code_prB0 ‹_›) | (with_reducible exact triangle_prB ‹_›) | (with_reducible exact triangle_prB0 ‹_›) | (with_reducible exact l01Both_prB ‹_›) | (with_reducible exact l01Both_prB0 ‹_›) | (with_reducible exact sfield_prB0 ‹_›))) (by omega) | rfl)
def run_i_PoleOf : List PV → Option (Bool × List TR)
  | [.v (.int .i64 p), .v (.agg ⟨[.int .i64 k0, .int .i64 k1, .int .i64 k2, .int .i64 k3, .int .i64 k4, .int .i64 k5]⟩), .v (.agg ⟨[.int .i64 l0, .int .i64 l1, .int .i64 l2]⟩)] => some (true, enc_a2_i (i_PoleOf p (k0, k1, k2, k3, k4, k5) (l0, l1, l2)))
  | _ => none
theorem sound_i_PoleOf : Sound Try.prog 42 run_i_PoleOf := by
  refine sound_of de_a2_i SO_i_PoleOf (by kernel_rfl) Try.func42 Try.ntmps42 rfl (by kernel_rfl) ?_
  intro W pvs avs rs hargs hrun
  unfold run_i_PoleOf at hrun
  split at hrun
  · simp only [Option.some.injEq, Prod.mk.injEq] at hrun
    obtain ⟨hp, rfl⟩ := hrun
    rename_i p k0 k1 k2 k3 k4 k5 l0 l1 l2
    exact ⟨_, _, _, hargs, rfl, (eq_i_PoleOf _ p (k0, k1, k2, k3, k4, k5) (l0, l1, l2)).trans (tot_i_PoleOf p (k0, k1, k2, k3, k4, k5) (l0, l1, l2))⟩
  · cases hrun

def S_l_FnExactPoleOf : Sums := ⟨tblS [(15, run_l_toConic), (41, run_l_toLine), (40, run_s_PoleOf), (42, run_i_PoleOf), (37, run_l_eqPoint)], tblM []⟩
theorem SO_l_FnExactPoleOf : SumsOK Try.prog S_l_FnExactPoleOf := ⟨tblS_ok ⟨⟨Try.call15, sound_l_toConic⟩, ⟨Try.call41, sound_l_toLine⟩, ⟨Try.call40, sound_s_PoleOf⟩, ⟨Try.call42, sound_i_PoleOf⟩, ⟨Try.call37, sound_l_eqPoint⟩, True.intro⟩, tblM_ok True.intro⟩
def Fo_l_FnExactPoleOf (aP : Int) (aK : Int × Int × Int × Int × Int × Int) (aL : Int × Int × Int) : Option (Bool) :=
  (if (!(l_eqPoint ((i_PoleOf aP (l_toConic aK) (l_toLine aL)).1) ((s_PoleOf aP (l_toConic aK) (l_toLine aL)).1))) = true then some false else (if (((i_PoleOf aP (l_toConic aK) (l_toLine aL)).2) != ((s_PoleOf aP (l_toConic aK) (l_toLine aL)).2)) = true then some false else some true))
theorem eq_l_FnExactPoleOf (aP : Int) (aK : Int × Int × Int × Int × Int × Int) (aL : Int × Int × Int) : execT Try.prog S_l_FnExactPoleOf 11 38 (fun _ => 1000000) dec_b [.v (.int .i64 aP), .v (.agg ⟨[.int .i64 aK.1, .int .i64 aK.2.1, .int .i64 aK.2.2.1, .int .i64 aK.2.2.2.1, .int .i64 aK.2.2.2.2.1, .int .i64 aK.2.2.2.2.2]⟩), .v (.agg ⟨[.int .i64 aL.1, .int .i64 aL.2.1, .int .i64 aL.2.2]⟩)] = Fo_l_FnExactPoleOf aP aK aL := by
  kernel_rfl
def l_FnExactPoleOf (aP : Int) (aK : Int × Int × Int × Int × Int × Int) (aL : Int × Int × Int) : Bool :=
  (if (!(l_eqPoint ((i_PoleOf aP (l_toConic aK) (l_toLine aL)).1) ((s_PoleOf aP (l_toConic aK) (l_toLine aL)).1))) = true then false else (if (((i_PoleOf aP (l_toConic aK) (l_toLine aL)).2) != ((s_PoleOf aP (l_toConic aK) (l_toLine aL)).2)) = true then false else true))
theorem tot_l_FnExactPoleOf (aP : Int) (aK : Int × Int × Int × Int × Int × Int) (aL : Int × Int × Int) : Fo_l_FnExactPoleOf aP aK aL = some (l_FnExactPoleOf aP aK aL) := by
  unfold Fo_l_FnExactPoleOf l_FnExactPoleOf
  (try simp only [wI_eq])
  repeat' (first | with_reducible rfl | refine ite_opt (fun _ => ?_) (fun _ => ?_) | rfl)
def run_l_FnExactPoleOf : List PV → Option (Bool × List TR)
  | [.v (.int .i64 aP), .v (.agg ⟨[.int .i64 aK0, .int .i64 aK1, .int .i64 aK2, .int .i64 aK3, .int .i64 aK4, .int .i64 aK5]⟩), .v (.agg ⟨[.int .i64 aL0, .int .i64 aL1, .int .i64 aL2]⟩)] => some (true, enc_b (l_FnExactPoleOf aP (aK0, aK1, aK2, aK3, aK4, aK5) (aL0, aL1, aL2)))
  | _ => none
theorem sound_l_FnExactPoleOf : Sound Try.prog 11 run_l_FnExactPoleOf := by
  refine sound_of de_b SO_l_FnExactPoleOf (by kernel_rfl) Try.func11 Try.ntmps11 rfl (by kernel_rfl) ?_
  intro W pvs avs rs hargs hrun
  unfold run_l_FnExactPoleOf at hrun
  split at hrun
  · simp only [Option.some.injEq, Prod.mk.injEq] at hrun
    obtain ⟨hp, rfl⟩ := hrun
    rename_i aP aK0 aK1 aK2 aK3 aK4 aK5 aL0 aL1 aL2
    exact ⟨_, _, _, hargs, rfl, (eq_l_FnExactPoleOf aP (aK0, aK1, aK2, aK3, aK4, aK5) (aL0, aL1, aL2)).trans (tot_l_FnExactPoleOf aP (aK0, aK1, aK2, aK3, aK4, aK5) (aL0, aL1, aL2))⟩
  · cases hrun


end Go.Proofs.Ytjpckmpeahinkaa
