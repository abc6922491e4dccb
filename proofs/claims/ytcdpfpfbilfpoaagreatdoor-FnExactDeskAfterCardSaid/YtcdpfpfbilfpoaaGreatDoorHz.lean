import Derived.Test.YtcdpfpfbilfpoaaGreatDoorDn
import Derived.Test.YtcdpfpfbilfpoaaGreatDoorProg
set_option linter.unusedSimpArgs false
set_option linter.unusedVariables false
namespace Go.Proofs.YtcdpfpfbilfpoaaGreatDoor
open Go.RowKit
def dec_a2 : List TR → Option (Int × Int)
 | [.v (.agg ⟨[.int .i64 x0_0, .int .i64 x0_1]⟩)] => some (x0_0, x0_1)
 | _ => none
def enc_a2 : Int × Int → List TR
 | (x0_0, x0_1) => [.v (.agg ⟨[.int .i64 x0_0, .int .i64 x0_1]⟩)]
theorem de_a2 (rs : List TR) (x : P2) (h : dec_a2 rs = some x) : rs = enc_a2 x := by
 unfold dec_a2 at h
 split at h
 ·simp only [Option.some.injEq] at h
  subst h
  rfl
 ·cases h
def dec_a6 : List TR → Option (Int × Int × Int × Int × Int × Int)
 | [.v (.agg ⟨[.int .i64 x0_0, .int .i64 x0_1, .int .i64 x0_2, .int .i64 x0_3, .int .i64 x0_4, .int .i64 x0_5]⟩)] => some (x0_0, x0_1, x0_2, x0_3, x0_4, x0_5)
 | _ => none
def enc_a6 : Int × Int × Int × Int × Int × Int → List TR
 | (x0_0, x0_1, x0_2, x0_3, x0_4, x0_5) => [.v (.agg ⟨[.int .i64 x0_0, .int .i64 x0_1, .int .i64 x0_2, .int .i64 x0_3, .int .i64 x0_4, .int .i64 x0_5]⟩)]
theorem de_a6 (rs : List TR) (x : Int × Int × Int × Int × Int × Int) (h : dec_a6 rs = some x) : rs = enc_a6 x := by
 unfold dec_a6 at h
 split at h
 ·simp only [Option.some.injEq] at h
  subst h
  rfl
 ·cases h
def dec_a8 : List TR → Option (D8i)
 | [.v (.agg ⟨[.int .i64 x0_0, .int .i64 x0_1, .int .i64 x0_2, .int .i64 x0_3, .int .i64 x0_4, .int .i64 x0_5, .int .i64 x0_6, .int .i64 x0_7]⟩)] => some (x0_0, x0_1, x0_2, x0_3, x0_4, x0_5, x0_6, x0_7)
 | _ => none
def enc_a8 : D8i → List TR
 | (x0_0, x0_1, x0_2, x0_3, x0_4, x0_5, x0_6, x0_7) => [.v (.agg ⟨[.int .i64 x0_0, .int .i64 x0_1, .int .i64 x0_2, .int .i64 x0_3, .int .i64 x0_4, .int .i64 x0_5, .int .i64 x0_6, .int .i64 x0_7]⟩)]
theorem de_a8 (rs : List TR) (x : D8i) (h : dec_a8 rs = some x) : rs = enc_a8 x := by
 unfold dec_a8 at h
 split at h
 ·simp only [Option.some.injEq] at h
  subst h
  rfl
 ·cases h
def dec_b : List TR → Option (Bool)
 | [.v (.bool x0)] => some x0
 | _ => none
def enc_b : Bool → List TR
 | x0 => [.v (.bool x0)]
theorem de_b (rs : List TR) (x : Bool) (h : dec_b rs = some x) : rs = enc_b x := by
 unfold dec_b at h
 split at h
 ·simp only [Option.some.injEq] at h
  subst h
  rfl
 ·cases h
def dec_i : List TR → Option (Int)
 | [.v (.int .i64 x0)] => some x0
 | _ => none
def enc_i : Int → List TR
 | x0 => [.v (.int .i64 x0)]
theorem de_i (rs : List TR) (x : Int) (h : dec_i rs = some x) : rs = enc_i x := by
 unfold dec_i at h
 split at h
 ·simp only [Option.some.injEq] at h
  subst h
  rfl
 ·cases h
def dec_s9_1 : List TR → Option (Nat × List ByteArray)
 | [.s 9 1 n0 (.strs x0)] => some (n0, x0)
 | _ => none
def enc_s9_1 : Nat × List ByteArray → List TR
 | (n0, x0) => [.s 9 1 n0 (.strs x0)]
theorem de_s9_1 (rs : List TR) (x : Nat × List ByteArray) (h : dec_s9_1 rs = some x) : rs = enc_s9_1 x := by
 unfold dec_s9_1 at h
 split at h
 ·simp only [Option.some.injEq] at h
  subst h
  rfl
 ·cases h
def dec_s : List TR → Option (ByteArray)
 | [.v (.string x0)] => some x0
 | _ => none
def enc_s : ByteArray → List TR
 | x0 => [.v (.string x0)]
theorem de_s (rs : List TR) (x : ByteArray) (h : dec_s rs = some x) : rs = enc_s x := by
 unfold dec_s at h
 split at h
 ·simp only [Option.some.injEq] at h
  subst h
  rfl
 ·cases h
def dec_a2_i : List TR → Option ((Int × Int) × Int)
 | [.v (.agg ⟨[.int .i64 x0_0, .int .i64 x0_1]⟩), .v (.int .i64 x1)] => some ((x0_0, x0_1), x1)
 | _ => none
def enc_a2_i : (Int × Int) × Int → List TR
 | ((x0_0, x0_1), x1) => [.v (.agg ⟨[.int .i64 x0_0, .int .i64 x0_1]⟩), .v (.int .i64 x1)]
theorem de_a2_i (rs : List TR) (x : (Int × Int) × Int) (h : dec_a2_i rs = some x) : rs = enc_a2_i x := by
 unfold dec_a2_i at h
 split at h
 ·simp only [Option.some.injEq] at h
  subst h
  rfl
 ·cases h
def dec_a3 : List TR → Option (Int × Int × Int)
 | [.v (.agg ⟨[.int .i64 x0_0, .int .i64 x0_1, .int .i64 x0_2]⟩)] => some (x0_0, x0_1, x0_2)
 | _ => none
def enc_a3 : Int × Int × Int → List TR
 | (x0_0, x0_1, x0_2) => [.v (.agg ⟨[.int .i64 x0_0, .int .i64 x0_1, .int .i64 x0_2]⟩)]
theorem de_a3 (rs : List TR) (x : P3) (h : dec_a3 rs = some x) : rs = enc_a3 x := by
 unfold dec_a3 at h
 split at h
 ·simp only [Option.some.injEq] at h
  subst h
  rfl
 ·cases h
def dec_a3_i : List TR → Option ((Int × Int × Int) × Int)
 | [.v (.agg ⟨[.int .i64 x0_0, .int .i64 x0_1, .int .i64 x0_2]⟩), .v (.int .i64 x1)] => some ((x0_0, x0_1, x0_2), x1)
 | _ => none
def enc_a3_i : (Int × Int × Int) × Int → List TR
 | ((x0_0, x0_1, x0_2), x1) => [.v (.agg ⟨[.int .i64 x0_0, .int .i64 x0_1, .int .i64 x0_2]⟩), .v (.int .i64 x1)]
theorem de_a3_i (rs : List TR) (x : (Int × Int × Int) × Int) (h : dec_a3_i rs = some x) : rs = enc_a3_i x := by
 unfold dec_a3_i at h
 split at h
 ·simp only [Option.some.injEq] at h
  subst h
  rfl
 ·cases h
def dec_a2_b : List TR → Option ((Int × Int) × Bool)
 | [.v (.agg ⟨[.int .i64 x0_0, .int .i64 x0_1]⟩), .v (.bool x1)] => some ((x0_0, x0_1), x1)
 | _ => none
def enc_a2_b : (Int × Int) × Bool → List TR
 | ((x0_0, x0_1), x1) => [.v (.agg ⟨[.int .i64 x0_0, .int .i64 x0_1]⟩), .v (.bool x1)]
theorem de_a2_b (rs : List TR) (x : (Int × Int) × Bool) (h : dec_a2_b rs = some x) : rs = enc_a2_b x := by
 unfold dec_a2_b at h
 split at h
 ·simp only [Option.some.injEq] at h
  subst h
  rfl
 ·cases h
def dec_i_i : List TR → Option (Int × Int)
 | [.v (.int .i64 x0), .v (.int .i64 x1)] => some (x0, x1)
 | _ => none
def enc_i_i : Int × Int → List TR
 | (x0, x1) => [.v (.int .i64 x0), .v (.int .i64 x1)]
theorem de_i_i (rs : List TR) (x : P2) (h : dec_i_i rs = some x) : rs = enc_i_i x := by
 unfold dec_i_i at h
 split at h
 ·simp only [Option.some.injEq] at h
  subst h
  rfl
 ·cases h
def dec_b_i : List TR → Option (Bool × Int)
 | [.v (.bool x0), .v (.int .i64 x1)] => some (x0, x1)
 | _ => none
def enc_b_i : Bool × Int → List TR
 | (x0, x1) => [.v (.bool x0), .v (.int .i64 x1)]
theorem de_b_i (rs : List TR) (x : Bool × Int) (h : dec_b_i rs = some x) : rs = enc_b_i x := by
 unfold dec_b_i at h
 split at h
 ·simp only [Option.some.injEq] at h
  subst h
  rfl
 ·cases h
def dec_l25_2_i : List TR → Option ((Nat × List Int) × Int)
 | [.s 25 2 n0 (.ints x0), .v (.int .i64 x1)] => some ((n0, x0), x1)
 | _ => none
def enc_l25_2_i : (Nat × List Int) × Int → List TR
 | ((n0, x0), x1) => [.s 25 2 n0 (.ints x0), .v (.int .i64 x1)]
theorem de_l25_2_i (rs : List TR) (x : (Nat × List Int) × Int) (h : dec_l25_2_i rs = some x) : rs = enc_l25_2_i x := by
 unfold dec_l25_2_i at h
 split at h
 ·simp only [Option.some.injEq] at h
  subst h
  rfl
 ·cases h
def dec_l25_2 : List TR → Option (Nat × List Int)
 | [.s 25 2 n0 (.ints x0)] => some (n0, x0)
 | _ => none
def enc_l25_2 : Nat × List Int → List TR
 | (n0, x0) => [.s 25 2 n0 (.ints x0)]
theorem de_l25_2 (rs : List TR) (x : Nat × List Int) (h : dec_l25_2 rs = some x) : rs = enc_l25_2 x := by
 unfold dec_l25_2 at h
 split at h
 ·simp only [Option.some.injEq] at h
  subst h
  rfl
 ·cases h
def dec_l2_1_i : List TR → Option ((Nat × List Int) × Int)
 | [.s 2 1 n0 (.ints x0), .v (.int .i64 x1)] => some ((n0, x0), x1)
 | _ => none
def enc_l2_1_i : (Nat × List Int) × Int → List TR
 | ((n0, x0), x1) => [.s 2 1 n0 (.ints x0), .v (.int .i64 x1)]
theorem de_l2_1_i (rs : List TR) (x : (Nat × List Int) × Int) (h : dec_l2_1_i rs = some x) : rs = enc_l2_1_i x := by
 unfold dec_l2_1_i at h
 split at h
 ·simp only [Option.some.injEq] at h
  subst h
  rfl
 ·cases h
def dec_l90_3_i : List TR → Option ((Nat × List Int) × Int)
 | [.s 90 3 n0 (.ints x0), .v (.int .i64 x1)] => some ((n0, x0), x1)
 | _ => none
def enc_l90_3_i : (Nat × List Int) × Int → List TR
 | ((n0, x0), x1) => [.s 90 3 n0 (.ints x0), .v (.int .i64 x1)]
theorem de_l90_3_i (rs : List TR) (x : (Nat × List Int) × Int) (h : dec_l90_3_i rs = some x) : rs = enc_l90_3_i x := by
 unfold dec_l90_3_i at h
 split at h
 ·simp only [Option.some.injEq] at h
  subst h
  rfl
 ·cases h
def dec_s_i : List TR → Option (ByteArray × Int)
 | [.v (.string x0), .v (.int .i64 x1)] => some (x0, x1)
 | _ => none
def enc_s_i : ByteArray × Int → List TR
 | (x0, x1) => [.v (.string x0), .v (.int .i64 x1)]
theorem de_s_i (rs : List TR) (x : ByteArray × Int) (h : dec_s_i rs = some x) : rs = enc_s_i x := by
 unfold dec_s_i at h
 split at h
 ·simp only [Option.some.injEq] at h
  subst h
  rfl
 ·cases h
def dec_a8_s_i : List TR → Option ((D8i) × ByteArray × Int)
 | [.v (.agg ⟨[.int .i64 x0_0, .int .i64 x0_1, .int .i64 x0_2, .int .i64 x0_3, .int .i64 x0_4, .int .i64 x0_5, .int .i64 x0_6, .int .i64 x0_7]⟩), .v (.string x1), .v (.int .i64 x2)] => some ((x0_0, x0_1, x0_2, x0_3, x0_4, x0_5, x0_6, x0_7), x1, x2)
 | _ => none
def enc_a8_s_i : (D8i) × ByteArray × Int → List TR
 | ((x0_0, x0_1, x0_2, x0_3, x0_4, x0_5, x0_6, x0_7), x1, x2) => [.v (.agg ⟨[.int .i64 x0_0, .int .i64 x0_1, .int .i64 x0_2, .int .i64 x0_3, .int .i64 x0_4, .int .i64 x0_5, .int .i64 x0_6, .int .i64 x0_7]⟩), .v (.string x1), .v (.int .i64 x2)]
theorem de_a8_s_i (rs : List TR) (x : (D8i) × ByteArray × Int) (h : dec_a8_s_i rs = some x) : rs = enc_a8_s_i x := by
 unfold dec_a8_s_i at h
 split at h
 ·simp only [Option.some.injEq] at h
  subst h
  rfl
 ·cases h
def dec_l2_1 : List TR → Option (Nat × List Int)
 | [.s 2 1 n0 (.ints x0)] => some (n0, x0)
 | _ => none
def enc_l2_1 : Nat × List Int → List TR
 | (n0, x0) => [.s 2 1 n0 (.ints x0)]
theorem de_l2_1 (rs : List TR) (x : Nat × List Int) (h : dec_l2_1 rs = some x) : rs = enc_l2_1 x := by
 unfold dec_l2_1 at h
 split at h
 ·simp only [Option.some.injEq] at h
  subst h
  rfl
 ·cases h
def dec_a8_s : List TR → Option ((D8i) × ByteArray)
 | [.v (.agg ⟨[.int .i64 x0_0, .int .i64 x0_1, .int .i64 x0_2, .int .i64 x0_3, .int .i64 x0_4, .int .i64 x0_5, .int .i64 x0_6, .int .i64 x0_7]⟩), .v (.string x1)] => some ((x0_0, x0_1, x0_2, x0_3, x0_4, x0_5, x0_6, x0_7), x1)
 | _ => none
def enc_a8_s : (D8i) × ByteArray → List TR
 | ((x0_0, x0_1, x0_2, x0_3, x0_4, x0_5, x0_6, x0_7), x1) => [.v (.agg ⟨[.int .i64 x0_0, .int .i64 x0_1, .int .i64 x0_2, .int .i64 x0_3, .int .i64 x0_4, .int .i64 x0_5, .int .i64 x0_6, .int .i64 x0_7]⟩), .v (.string x1)]
theorem de_a8_s (rs : List TR) (x : (D8i) × ByteArray) (h : dec_a8_s rs = some x) : rs = enc_a8_s x := by
 unfold dec_a8_s at h
 split at h
 ·simp only [Option.some.injEq] at h
  subst h
  rfl
 ·cases h
def dec_P28_s_i_b : List Value × List BC → Option (ByteArray × Int × Bool × D8i)
 | ([.string x0, .int .i64 x1, .bool x2], [.v (.int .i64 c_0), .v (.int .i64 c_1), .v (.int .i64 c_2), .v (.int .i64 c_3), .v (.int .i64 c_4), .v (.int .i64 c_5), .v (.int .i64 c_6), .v (.int .i64 c_7)]) => some (x0, x1, x2, c_0, c_1, c_2, c_3, c_4, c_5, c_6, c_7)
 | _ => none
def enc_P28_s_i_b : ByteArray × Int × Bool × D8i → List Value × List BC
 | (x0, x1, x2, c_0, c_1, c_2, c_3, c_4, c_5, c_6, c_7) => ([.string x0, .int .i64 x1, .bool x2], [.v (.int .i64 c_0), .v (.int .i64 c_1), .v (.int .i64 c_2), .v (.int .i64 c_3), .v (.int .i64 c_4), .v (.int .i64 c_5), .v (.int .i64 c_6), .v (.int .i64 c_7)])
theorem de_P28_s_i_b (rs : List Value × List BC) (x : ByteArray × Int × Bool × D8i) (h : dec_P28_s_i_b rs = some x) : rs = enc_P28_s_i_b x := by
 unfold dec_P28_s_i_b at h
 split at h
 ·simp only [Option.some.injEq] at h
  subst h
  rfl
 ·cases h
def dec_l90_3 : List TR → Option (Nat × List Int)
 | [.s 90 3 n0 (.ints x0)] => some (n0, x0)
 | _ => none
def enc_l90_3 : Nat × List Int → List TR
 | (n0, x0) => [.s 90 3 n0 (.ints x0)]
theorem de_l90_3 (rs : List TR) (x : Nat × List Int) (h : dec_l90_3 rs = some x) : rs = enc_l90_3 x := by
 unfold dec_l90_3 at h
 split at h
 ·simp only [Option.some.injEq] at h
  subst h
  rfl
 ·cases h
def dec_l2_1_b : List TR → Option ((Nat × List Int) × Bool)
 | [.s 2 1 n0 (.ints x0), .v (.bool x1)] => some ((n0, x0), x1)
 | _ => none
def enc_l2_1_b : (Nat × List Int) × Bool → List TR
 | ((n0, x0), x1) => [.s 2 1 n0 (.ints x0), .v (.bool x1)]
theorem de_l2_1_b (rs : List TR) (x : (Nat × List Int) × Bool) (h : dec_l2_1_b rs = some x) : rs = enc_l2_1_b x := by
 unfold dec_l2_1_b at h
 split at h
 ·simp only [Option.some.injEq] at h
  subst h
  rfl
 ·cases h
def dec_i_b : List TR → Option (Int × Bool)
 | [.v (.int .i64 x0), .v (.bool x1)] => some (x0, x1)
 | _ => none
def enc_i_b : Int × Bool → List TR
 | (x0, x1) => [.v (.int .i64 x0), .v (.bool x1)]
theorem de_i_b (rs : List TR) (x : Int × Bool) (h : dec_i_b rs = some x) : rs = enc_i_b x := by
 unfold dec_i_b at h
 split at h
 ·simp only [Option.some.injEq] at h
  subst h
  rfl
 ·cases h
def dec_P28_s_i : List Value × List BC → Option (ByteArray × Int × D8i)
 | ([.string x0, .int .i64 x1], [.v (.int .i64 c_0), .v (.int .i64 c_1), .v (.int .i64 c_2), .v (.int .i64 c_3), .v (.int .i64 c_4), .v (.int .i64 c_5), .v (.int .i64 c_6), .v (.int .i64 c_7)]) => some (x0, x1, c_0, c_1, c_2, c_3, c_4, c_5, c_6, c_7)
 | _ => none
def enc_P28_s_i : ByteArray × Int × D8i → List Value × List BC
 | (x0, x1, c_0, c_1, c_2, c_3, c_4, c_5, c_6, c_7) => ([.string x0, .int .i64 x1], [.v (.int .i64 c_0), .v (.int .i64 c_1), .v (.int .i64 c_2), .v (.int .i64 c_3), .v (.int .i64 c_4), .v (.int .i64 c_5), .v (.int .i64 c_6), .v (.int .i64 c_7)])
theorem de_P28_s_i (rs : List Value × List BC) (x : ByteArray × Int × D8i) (h : dec_P28_s_i rs = some x) : rs = enc_P28_s_i x := by
 unfold dec_P28_s_i at h
 split at h
 ·simp only [Option.some.injEq] at h
  subst h
  rfl
 ·cases h
def dec_a8_s_b : List TR → Option ((D8i) × ByteArray × Bool)
 | [.v (.agg ⟨[.int .i64 x0_0, .int .i64 x0_1, .int .i64 x0_2, .int .i64 x0_3, .int .i64 x0_4, .int .i64 x0_5, .int .i64 x0_6, .int .i64 x0_7]⟩), .v (.string x1), .v (.bool x2)] => some ((x0_0, x0_1, x0_2, x0_3, x0_4, x0_5, x0_6, x0_7), x1, x2)
 | _ => none
def enc_a8_s_b : (D8i) × ByteArray × Bool → List TR
 | ((x0_0, x0_1, x0_2, x0_3, x0_4, x0_5, x0_6, x0_7), x1, x2) => [.v (.agg ⟨[.int .i64 x0_0, .int .i64 x0_1, .int .i64 x0_2, .int .i64 x0_3, .int .i64 x0_4, .int .i64 x0_5, .int .i64 x0_6, .int .i64 x0_7]⟩), .v (.string x1), .v (.bool x2)]
theorem de_a8_s_b (rs : List TR) (x : (D8i) × ByteArray × Bool) (h : dec_a8_s_b rs = some x) : rs = enc_a8_s_b x := by
 unfold dec_a8_s_b at h
 split at h
 ·simp only [Option.some.injEq] at h
  subst h
  rfl
 ·cases h
def dec_s9_1_b : List TR → Option ((Nat × List ByteArray) × Bool)
 | [.s 9 1 n0 (.strs x0), .v (.bool x1)] => some ((n0, x0), x1)
 | _ => none
def enc_s9_1_b : (Nat × List ByteArray) × Bool → List TR
 | ((n0, x0), x1) => [.s 9 1 n0 (.strs x0), .v (.bool x1)]
theorem de_s9_1_b (rs : List TR) (x : (Nat × List ByteArray) × Bool) (h : dec_s9_1_b rs = some x) : rs = enc_s9_1_b x := by
 unfold dec_s9_1_b at h
 split at h
 ·simp only [Option.some.injEq] at h
  subst h
  rfl
 ·cases h
def dec_a8_b : List TR → Option ((D8i) × Bool)
 | [.v (.agg ⟨[.int .i64 x0_0, .int .i64 x0_1, .int .i64 x0_2, .int .i64 x0_3, .int .i64 x0_4, .int .i64 x0_5, .int .i64 x0_6, .int .i64 x0_7]⟩), .v (.bool x1)] => some ((x0_0, x0_1, x0_2, x0_3, x0_4, x0_5, x0_6, x0_7), x1)
 | _ => none
def enc_a8_b : (D8i) × Bool → List TR
 | ((x0_0, x0_1, x0_2, x0_3, x0_4, x0_5, x0_6, x0_7), x1) => [.v (.agg ⟨[.int .i64 x0_0, .int .i64 x0_1, .int .i64 x0_2, .int .i64 x0_3, .int .i64 x0_4, .int .i64 x0_5, .int .i64 x0_6, .int .i64 x0_7]⟩), .v (.bool x1)]
theorem de_a8_b (rs : List TR) (x : (D8i) × Bool) (h : dec_a8_b rs = some x) : rs = enc_a8_b x := by
 unfold dec_a8_b at h
 split at h
 ·simp only [Option.some.injEq] at h
  subst h
  rfl
 ·cases h
def clo__b (k h : Bool) : List Value → Option (Bool × Value)
 | [] => some (k, .bool (h))
 | _ => none
theorem clo__b_ok (g : List Value → Option (Bool × Value)) : ∀ args r, clo__b (okV (g [])) (boolV (g [])) args = some (true, r) → g args = some (true, r) := by
 intro args r h
 unfold clo__b at h
 split at h
 ·simp only [Option.some.injEq, Prod.mk.injEq] at h
  obtain ⟨h1, rfl⟩ := h
  exact okV_some h1
 ·cases h
def clo_a2_b (k : (Int × Int) → Bool) (h : (Int × Int) → Bool) : List Value → Option (Bool × Value)
 | [.agg ⟨[.int .i64 a0_0, .int .i64 a0_1]⟩] => some (k (a0_0, a0_1), .bool (h (a0_0, a0_1)))
 | _ => none
theorem clo_a2_b_ok (g : List Value → Option (Bool × Value)) : ∀ args r, clo_a2_b (fun a0 => okV (g [.agg ⟨[.int .i64 a0.1, .int .i64 a0.2]⟩])) (fun a0 => boolV (g [.agg ⟨[.int .i64 a0.1, .int .i64 a0.2]⟩])) args = some (true, r) → g args = some (true, r) := by
 intro args r h
 unfold clo_a2_b at h
 split at h
 ·simp only [Option.some.injEq, Prod.mk.injEq] at h
  obtain ⟨h1, rfl⟩ := h
  exact okV_some h1
 ·cases h
def clo_a3_b (k : (Int × Int × Int) → Bool) (h : (Int × Int × Int) → Bool) : List Value → Option (Bool × Value)
 | [.agg ⟨[.int .i64 a0_0, .int .i64 a0_1, .int .i64 a0_2]⟩] => some (k (a0_0, a0_1, a0_2), .bool (h (a0_0, a0_1, a0_2)))
 | _ => none
theorem clo_a3_b_ok (g : List Value → Option (Bool × Value)) : ∀ args r, clo_a3_b (fun a0 => okV (g [.agg ⟨[.int .i64 a0.1, .int .i64 a0.2.1, .int .i64 a0.2.2]⟩])) (fun a0 => boolV (g [.agg ⟨[.int .i64 a0.1, .int .i64 a0.2.1, .int .i64 a0.2.2]⟩])) args = some (true, r) → g args = some (true, r) := by
 intro args r h
 unfold clo_a3_b at h
 split at h
 ·simp only [Option.some.injEq, Prod.mk.injEq] at h
  obtain ⟨h1, rfl⟩ := h
  exact okV_some h1
 ·cases h
def clo_i_b (k h : Int → Bool) : List Value → Option (Bool × Value)
 | [.int .i64 a0] => some (k a0, .bool (h a0))
 | _ => none
theorem clo_i_b_ok (g : List Value → Option (Bool × Value)) : ∀ args r, clo_i_b (fun a0 => okV (g [.int .i64 a0])) (fun a0 => boolV (g [.int .i64 a0])) args = some (true, r) → g args = some (true, r) := by
 intro args r h
 unfold clo_i_b at h
 split at h
 ·simp only [Option.some.injEq, Prod.mk.injEq] at h
  obtain ⟨h1, rfl⟩ := h
  exact okV_some h1
 ·cases h
noncomputable section
abbrev eT {α : Type} (S : Sums) (f n : Nat) (d : List TR → Option α) (l : List PV) : Option α := execT Tryz.prog S f n (fun _ => 1000000) d l
abbrev eF {α : Type} (fu : Nat) (S : Sums) (f n : Nat) (d : List TR → Option α) (l : List PV) : Option α := execT Tryz.prog S f n (fun _ => fu + 100) d l
end
abbrev pI (x : Int) : PV := .v (.int .i64 x)
abbrev pA (x : P2) : PV := .v (.agg ⟨[.int .i64 x.1, .int .i64 x.2]⟩)
abbrev pB (x : P3) : PV := .v (.agg ⟨[.int .i64 x.1, .int .i64 x.2.1, .int .i64 x.2.2]⟩)
theorem tM : ∀ g run, tblM [] g = some run → Callable Tryz.prog g ∧ SoundF Tryz.prog g run := tblM_ok True.intro

end Go.Proofs.YtcdpfpfbilfpoaaGreatDoor
