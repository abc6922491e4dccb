import Derived.Test.YtfclaacaphpoaaaDn
import Derived.Test.YtfclaacaphpoaaaProg
set_option linter.unusedSimpArgs false
set_option linter.unusedVariables false
namespace Go.Proofs.Ytfclaacaphpoaaa
open Go.RowKit
def Z0o : List TR -> Option (Bool)
 | [.v (.bool x0)] => some x0
 | _ => none
def Z4Q : Bool -> List TR
 | x0 => [.v (.bool x0)]
theorem Z7T (rs : List TR) (x : Bool) (h : Z0o rs = some x) : rs = Z4Q x := by
 unfold Z0o at h
 split at h
 ·simp only [Option.some.injEq] at h
  subst h
  rfl
 ·cases h
def Zbi : TypeId × List Value -> Option (Int × Int)
 | (117, [.int .i64 c0, .int .u64 c1]) => some (c0, c1)
 | _ => none
def Zq7 : Int × Int -> TypeId × List Value
 | (c0, c1) => (117, [.int .i64 c0, .int .u64 c1])
theorem Zw1 (rs : TypeId × List Value) (x : P2) (h : Zbi rs = some x) : rs = Zq7 x := by
 unfold Zbi at h
 split at h
 ·simp only [Option.some.injEq] at h
  subst h
  rfl
 ·cases h
def Z77 : List Value × List BC -> Option (Int × Nat × List Int × Int × Int)
 | ([.int .i64 x0], [.s cn (.byts cl), .v (.int .i64 c_1), .v (.int .u64 c_2)]) => some (x0, cn, cl, c_1, c_2)
 | _ => none
def Z8b : Int × Nat × List Int × Int × Int -> List Value × List BC
 | (x0, cn, cl, c_1, c_2) => ([.int .i64 x0], [.s cn (.byts cl), .v (.int .i64 c_1), .v (.int .u64 c_2)])
theorem Zbh (rs : List Value × List BC) (x : Int × Nat × List Int × Int × Int) (h : Z77 rs = some x) : rs = Z8b x := by
 unfold Z77 at h
 split at h
 ·simp only [Option.some.injEq] at h
  subst h
  rfl
 ·cases h
def Zaq : List Value × List BC -> Option ((Int × Int × Int) × Nat × List Int × Int × Int)
 | ([.agg ⟨[.int .i64 x0_0, .int .i64 x0_1, .int .i64 x0_2]⟩], [.s cn (.byts cl), .v (.int .i64 c_1), .v (.int .u64 c_2)]) => some ((x0_0, x0_1, x0_2), cn, cl, c_1, c_2)
 | _ => none
def ZdA : (Int × Int × Int) × Nat × List Int × Int × Int -> List Value × List BC
 | ((x0_0, x0_1, x0_2), cn, cl, c_1, c_2) => ([.agg ⟨[.int .i64 x0_0, .int .i64 x0_1, .int .i64 x0_2]⟩], [.s cn (.byts cl), .v (.int .i64 c_1), .v (.int .u64 c_2)])
theorem Zl5 (rs : List Value × List BC) (x : (Int × Int × Int) × Nat × List Int × Int × Int) (h : Zaq rs = some x) : rs = ZdA x := by
 unfold Zaq at h
 split at h
 ·simp only [Option.some.injEq] at h
  subst h
  rfl
 ·cases h
def Z2T : List TR -> Option (Int)
 | [.v (.int .i64 x0)] => some x0
 | _ => none
def Z7V : Int -> List TR
 | x0 => [.v (.int .i64 x0)]
theorem Zdw (rs : List TR) (x : Int) (h : Z2T rs = some x) : rs = Z7V x := by
 unfold Z2T at h
 split at h
 ·simp only [Option.some.injEq] at h
  subst h
  rfl
 ·cases h
def Z9X : List TR -> Option ((Int × Int × Int × Int × Int × Int) × Bool)
 | [.v (.agg ⟨[.int .i64 x0_0, .int .i64 x0_1, .int .i64 x0_2, .int .i64 x0_3, .int .i64 x0_4, .int .i64 x0_5]⟩), .v (.bool x1)] => some ((x0_0, x0_1, x0_2, x0_3, x0_4, x0_5), x1)
 | _ => none
def Zla : (Int × Int × Int × Int × Int × Int) × Bool -> List TR
 | ((x0_0, x0_1, x0_2, x0_3, x0_4, x0_5), x1) => [.v (.agg ⟨[.int .i64 x0_0, .int .i64 x0_1, .int .i64 x0_2, .int .i64 x0_3, .int .i64 x0_4, .int .i64 x0_5]⟩), .v (.bool x1)]
theorem Zsx (rs : List TR) (x : (Int × Int × Int × Int × Int × Int) × Bool) (h : Z9X rs = some x) : rs = Zla x := by
 unfold Z9X at h
 split at h
 ·simp only [Option.some.injEq] at h
  subst h
  rfl
 ·cases h
def Zar : List Value × List BC -> Option ((Int × Int × Int × Int × Int × Int) × Nat × List Int × Int × Int)
 | ([.agg ⟨[.int .i64 x0_0, .int .i64 x0_1, .int .i64 x0_2, .int .i64 x0_3, .int .i64 x0_4, .int .i64 x0_5]⟩], [.s cn (.byts cl), .v (.int .i64 c_1), .v (.int .u64 c_2)]) => some ((x0_0, x0_1, x0_2, x0_3, x0_4, x0_5), cn, cl, c_1, c_2)
 | _ => none
def ZdB : (Int × Int × Int × Int × Int × Int) × Nat × List Int × Int × Int -> List Value × List BC
 | ((x0_0, x0_1, x0_2, x0_3, x0_4, x0_5), cn, cl, c_1, c_2) => ([.agg ⟨[.int .i64 x0_0, .int .i64 x0_1, .int .i64 x0_2, .int .i64 x0_3, .int .i64 x0_4, .int .i64 x0_5]⟩], [.s cn (.byts cl), .v (.int .i64 c_1), .v (.int .u64 c_2)])
theorem Zl6 (rs : List Value × List BC) (x : (Int × Int × Int × Int × Int × Int) × Nat × List Int × Int × Int) (h : Zar rs = some x) : rs = ZdB x := by
 unfold Zar at h
 split at h
 ·simp only [Option.some.injEq] at h
  subst h
  rfl
 ·cases h
def Z0p : List TR -> Option (Nat × List Int)
 | [.s 27 2 n0 (.ints x0)] => some (n0, x0)
 | _ => none
def Zek : Nat × List Int -> List TR
 | (n0, x0) => [.s 27 2 n0 (.ints x0)]
theorem Zl7 (rs : List TR) (x : Nat × List Int) (h : Z0p rs = some x) : rs = Zek x := by
 unfold Z0p at h
 split at h
 ·simp only [Option.some.injEq] at h
  subst h
  rfl
 ·cases h
def Zap : List Value × List BC -> Option ((Int × Int) × Nat × List Int × Int × Int)
 | ([.agg ⟨[.int .i64 x0_0, .int .i64 x0_1]⟩], [.s cn (.byts cl), .v (.int .i64 c_1), .v (.int .u64 c_2)]) => some ((x0_0, x0_1), cn, cl, c_1, c_2)
 | _ => none
def Zdz : (Int × Int) × Nat × List Int × Int × Int -> List Value × List BC
 | ((x0_0, x0_1), cn, cl, c_1, c_2) => ([.agg ⟨[.int .i64 x0_0, .int .i64 x0_1]⟩], [.s cn (.byts cl), .v (.int .i64 c_1), .v (.int .u64 c_2)])
theorem Zl4 (rs : List Value × List BC) (x : (Int × Int) × Nat × List Int × Int × Int) (h : Zap rs = some x) : rs = Zdz x := by
 unfold Zap at h
 split at h
 ·simp only [Option.some.injEq] at h
  subst h
  rfl
 ·cases h
def Z7m : List TR -> Option (Int × Nat × List Int)
 | [.v (.int .i64 x0), .s 27 2 n1 (.ints x1)] => some (x0, (n1, x1))
 | _ => none
def ZiV : Int × Nat × List Int -> List TR
 | (x0, (n1, x1)) => [.v (.int .i64 x0), .s 27 2 n1 (.ints x1)]
theorem Zrv (rs : List TR) (x : Int × Nat × List Int) (h : Z7m rs = some x) : rs = ZiV x := by
 unfold Z7m at h
 split at h
 ·simp only [Option.some.injEq] at h
  subst h
  rfl
 ·cases h
def Zry : List TR -> Option (Int × Int × Int × Int × Int × Int)
 | [.v (.agg ⟨[.int .i64 x0_0, .int .i64 x0_1, .int .i64 x0_2, .int .i64 x0_3, .int .i64 x0_4, .int .i64 x0_5]⟩)] => some (x0_0, x0_1, x0_2, x0_3, x0_4, x0_5)
 | _ => none
def ZuH : Int × Int × Int × Int × Int × Int -> List TR
 | (x0_0, x0_1, x0_2, x0_3, x0_4, x0_5) => [.v (.agg ⟨[.int .i64 x0_0, .int .i64 x0_1, .int .i64 x0_2, .int .i64 x0_3, .int .i64 x0_4, .int .i64 x0_5]⟩)]
theorem Zxy (rs : List TR) (x : Int × Int × Int × Int × Int × Int) (h : Zry rs = some x) : rs = ZuH x := by
 unfold Zry at h
 split at h
 ·simp only [Option.some.injEq] at h
  subst h
  rfl
 ·cases h
def Ze : List TR -> Option ((Int × Int × Int × Int × Int × Int) × Int)
 | [.v (.agg ⟨[.int .i64 x0_0, .int .i64 x0_1, .int .i64 x0_2, .int .i64 x0_3, .int .i64 x0_4, .int .i64 x0_5]⟩), .v (.int .i64 x1)] => some ((x0_0, x0_1, x0_2, x0_3, x0_4, x0_5), x1)
 | _ => none
def Z9Y : (Int × Int × Int × Int × Int × Int) × Int -> List TR
 | ((x0_0, x0_1, x0_2, x0_3, x0_4, x0_5), x1) => [.v (.agg ⟨[.int .i64 x0_0, .int .i64 x0_1, .int .i64 x0_2, .int .i64 x0_3, .int .i64 x0_4, .int .i64 x0_5]⟩), .v (.int .i64 x1)]
theorem Zej (rs : List TR) (x : (Int × Int × Int × Int × Int × Int) × Int) (h : Ze rs = some x) : rs = Z9Y x := by
 unfold Ze at h
 split at h
 ·simp only [Option.some.injEq] at h
  subst h
  rfl
 ·cases h
def Zl9 : List TR -> Option (Nat × List Int)
 | [.s 2 1 n0 (.ints x0)] => some (n0, x0)
 | _ => none
def Zq9 : Nat × List Int -> List TR
 | (n0, x0) => [.s 2 1 n0 (.ints x0)]
theorem Zw3 (rs : List TR) (x : Nat × List Int) (h : Zl9 rs = some x) : rs = Zq9 x := by
 unfold Zl9 at h
 split at h
 ·simp only [Option.some.injEq] at h
  subst h
  rfl
 ·cases h
def Zj : List TR -> Option (List (List Int))
 | [.d 54 x0] => some x0
 | _ => none
def ZsA : List (List Int) -> List TR
 | x0 => [.d 54 x0]
theorem Zx6 (rs : List TR) (x : List (List Int)) (h : Zj rs = some x) : rs = ZsA x := by
 unfold Zj at h
 split at h
 ·simp only [Option.some.injEq] at h
  subst h
  rfl
 ·cases h
def ZfL : List TR -> Option (Int × Nat × List Int)
 | [.v (.int .i64 x0), .s 2 1 n1 (.ints x1)] => some (x0, (n1, x1))
 | _ => none
def Zlc : Int × Nat × List Int -> List TR
 | (x0, (n1, x1)) => [.v (.int .i64 x0), .s 2 1 n1 (.ints x1)]
theorem ZtC (rs : List TR) (x : Int × Nat × List Int) (h : ZfL rs = some x) : rs = Zlc x := by
 unfold ZfL at h
 split at h
 ·simp only [Option.some.injEq] at h
  subst h
  rfl
 ·cases h
def ZfK : List TR -> Option (Int × Int × Int)
 | [.v (.agg ⟨[.int .i64 x0_0, .int .i64 x0_1, .int .i64 x0_2]⟩)] => some (x0_0, x0_1, x0_2)
 | _ => none
def ZrA : Int × Int × Int -> List TR
 | (x0_0, x0_1, x0_2) => [.v (.agg ⟨[.int .i64 x0_0, .int .i64 x0_1, .int .i64 x0_2]⟩)]
theorem ZwJ (rs : List TR) (x : P3) (h : ZfK rs = some x) : rs = ZrA x := by
 unfold ZfK at h
 split at h
 ·simp only [Option.some.injEq] at h
  subst h
  rfl
 ·cases h
def ZfJ : List TR -> Option (Int × Int)
 | [.v (.agg ⟨[.int .i64 x0_0, .int .i64 x0_1]⟩)] => some (x0_0, x0_1)
 | _ => none
def ZhR : Int × Int -> List TR
 | (x0_0, x0_1) => [.v (.agg ⟨[.int .i64 x0_0, .int .i64 x0_1]⟩)]
theorem Zq4 (rs : List TR) (x : P2) (h : ZfJ rs = some x) : rs = ZhR x := by
 unfold ZfJ at h
 split at h
 ·simp only [Option.some.injEq] at h
  subst h
  rfl
 ·cases h
def Z7n : List TR -> Option ((Nat × List Int) × Int)
 | [.s 31 3 n0 (.ints x0), .v (.int .i64 x1)] => some ((n0, x0), x1)
 | _ => none
def ZiX : (Nat × List Int) × Int -> List TR
 | ((n0, x0), x1) => [.s 31 3 n0 (.ints x0), .v (.int .i64 x1)]
theorem Zrx (rs : List TR) (x : (Nat × List Int) × Int) (h : Z7n rs = some x) : rs = ZiX x := by
 unfold Z7n at h
 split at h
 ·simp only [Option.some.injEq] at h
  subst h
  rfl
 ·cases h
def Z8p : List TR -> Option (Int × Int × (Int × Int) × Int × Int × Int)
 | [.v (.int .i64 x0), .v (.int .i64 x1), .v (.agg ⟨[.int .i64 x2_0, .int .i64 x2_1]⟩), .v (.agg ⟨[.int .i64 x3_0, .int .i64 x3_1, .int .i64 x3_2]⟩)] => some (x0, x1, (x2_0, x2_1), (x3_0, x3_1, x3_2))
 | _ => none
def ZaV : Int × Int × (Int × Int) × Int × Int × Int -> List TR
 | (x0, x1, (x2_0, x2_1), (x3_0, x3_1, x3_2)) => [.v (.int .i64 x0), .v (.int .i64 x1), .v (.agg ⟨[.int .i64 x2_0, .int .i64 x2_1]⟩), .v (.agg ⟨[.int .i64 x3_0, .int .i64 x3_1, .int .i64 x3_2]⟩)]
theorem ZgF (rs : List TR) (x : Int × Int × (Int × Int) × Int × Int × Int) (h : Z8p rs = some x) : rs = ZaV x := by
 unfold Z8p at h
 split at h
 ·simp only [Option.some.injEq] at h
  subst h
  rfl
 ·cases h
def Z9o : List TR -> Option (Nat × List Int)
 | [.s 31 3 n0 (.ints x0)] => some (n0, x0)
 | _ => none
def Znc : Nat × List Int -> List TR
 | (n0, x0) => [.s 31 3 n0 (.ints x0)]
theorem ZuC (rs : List TR) (x : Nat × List Int) (h : Z9o rs = some x) : rs = Znc x := by
 unfold Z9o at h
 split at h
 ·simp only [Option.some.injEq] at h
  subst h
  rfl
 ·cases h
def Zdx : List TR -> Option (Int × (Int × Int × Int × Int × Int × Int) × Int × Int)
 | [.v (.int .i64 x0), .v (.agg ⟨[.int .i64 x1_0, .int .i64 x1_1, .int .i64 x1_2, .int .i64 x1_3, .int .i64 x1_4, .int .i64 x1_5]⟩), .v (.agg ⟨[.int .i64 x2_0, .int .i64 x2_1]⟩)] => some (x0, (x1_0, x1_1, x1_2, x1_3, x1_4, x1_5), (x2_0, x2_1))
 | _ => none
def ZiU : Int × (Int × Int × Int × Int × Int × Int) × Int × Int -> List TR
 | (x0, (x1_0, x1_1, x1_2, x1_3, x1_4, x1_5), (x2_0, x2_1)) => [.v (.int .i64 x0), .v (.agg ⟨[.int .i64 x1_0, .int .i64 x1_1, .int .i64 x1_2, .int .i64 x1_3, .int .i64 x1_4, .int .i64 x1_5]⟩), .v (.agg ⟨[.int .i64 x2_0, .int .i64 x2_1]⟩)]
theorem Zru (rs : List TR) (x : Int × (Int × Int × Int × Int × Int × Int) × Int × Int) (h : Zdx rs = some x) : rs = ZiU x := by
 unfold Zdx at h
 split at h
 ·simp only [Option.some.injEq] at h
  subst h
  rfl
 ·cases h
def ZgG : List TR -> Option (Int × Int × Int × Int × Int × Int × Int)
 | [.v (.int .i64 x0), .v (.agg ⟨[.int .i64 x1_0, .int .i64 x1_1, .int .i64 x1_2, .int .i64 x1_3, .int .i64 x1_4, .int .i64 x1_5]⟩)] => some (x0, (x1_0, x1_1, x1_2, x1_3, x1_4, x1_5))
 | _ => none
def Zlb : Int × Int × Int × Int × Int × Int × Int -> List TR
 | (x0, (x1_0, x1_1, x1_2, x1_3, x1_4, x1_5)) => [.v (.int .i64 x0), .v (.agg ⟨[.int .i64 x1_0, .int .i64 x1_1, .int .i64 x1_2, .int .i64 x1_3, .int .i64 x1_4, .int .i64 x1_5]⟩)]
theorem Zsy (rs : List TR) (x : Int × Int × Int × Int × Int × Int × Int) (h : ZgG rs = some x) : rs = Zlb x := by
 unfold ZgG at h
 split at h
 ·simp only [Option.some.injEq] at h
  subst h
  rfl
 ·cases h
def Zkl : List TR -> Option (Bool × Int)
 | [.v (.bool x0), .v (.int .i64 x1)] => some (x0, x1)
 | _ => none
def Zon : Bool × Int -> List TR
 | (x0, x1) => [.v (.bool x0), .v (.int .i64 x1)]
theorem ZuB (rs : List TR) (x : Bool × Int) (h : Zkl rs = some x) : rs = Zon x := by
 unfold Zkl at h
 split at h
 ·simp only [Option.some.injEq] at h
  subst h
  rfl
 ·cases h
def Zdy : List TR -> Option ((Nat × List Int) × Int)
 | [.s 27 2 n0 (.ints x0), .v (.int .i64 x1)] => some ((n0, x0), x1)
 | _ => none
def ZiW : (Nat × List Int) × Int -> List TR
 | ((n0, x0), x1) => [.s 27 2 n0 (.ints x0), .v (.int .i64 x1)]
theorem Zrw (rs : List TR) (x : (Nat × List Int) × Int) (h : Zdy rs = some x) : rs = ZiW x := by
 unfold Zdy at h
 split at h
 ·simp only [Option.some.injEq] at h
  subst h
  rfl
 ·cases h
def Zl8 : List TR -> Option ((Int × Int) × Int)
 | [.v (.agg ⟨[.int .i64 x0_0, .int .i64 x0_1]⟩), .v (.int .i64 x1)] => some ((x0_0, x0_1), x1)
 | _ => none
def Zq8 : (Int × Int) × Int -> List TR
 | ((x0_0, x0_1), x1) => [.v (.agg ⟨[.int .i64 x0_0, .int .i64 x0_1]⟩), .v (.int .i64 x1)]
theorem Zw2 (rs : List TR) (x : (Int × Int) × Int) (h : Zl8 rs = some x) : rs = Zq8 x := by
 unfold Zl8 at h
 split at h
 ·simp only [Option.some.injEq] at h
  subst h
  rfl
 ·cases h
def Zol : List TR -> Option (Int × Int)
 | [.v (.int .i64 x0), .v (.int .i64 x1)] => some (x0, x1)
 | _ => none
def ZsB : Int × Int -> List TR
 | (x0, x1) => [.v (.int .i64 x0), .v (.int .i64 x1)]
theorem Zx7 (rs : List TR) (x : P2) (h : Zol rs = some x) : rs = ZsB x := by
 unfold Zol at h
 split at h
 ·simp only [Option.some.injEq] at h
  subst h
  rfl
 ·cases h
def Zoi (k h : Bool) : List Value -> Option (Bool × Value)
 | [] => some (k, .bool (h))
 | _ => none
theorem ZtB (g : List Value -> Option (Bool × Value)) : ∀ args r, Zoi (okV (g [])) (ZgC (g [])) args = some (true, r) -> g args = some (true, r) := by
 intro args r h
 unfold Zoi at h
 split at h
 ·simp only [Option.some.injEq, Prod.mk.injEq] at h
  obtain ⟨h1, rfl⟩ := h
  exact ZqP h1
 ·cases h
def Zbg (k : (Int × Int) -> Bool) (h : (Int × Int) -> Bool) : List Value -> Option (Bool × Value)
 | [.agg ⟨[.int .i64 a0_0, .int .i64 a0_1]⟩] => some (k (a0_0, a0_1), .bool (h (a0_0, a0_1)))
 | _ => none
theorem ZpY (g : List Value -> Option (Bool × Value)) : ∀ args r, Zbg (fun a0 => okV (g [.agg ⟨[.int .i64 a0.1, .int .i64 a0.2]⟩])) (fun a0 => ZgC (g [.agg ⟨[.int .i64 a0.1, .int .i64 a0.2]⟩])) args = some (true, r) -> g args = some (true, r) := by
 intro args r h
 unfold Zbg at h
 split at h
 ·simp only [Option.some.injEq, Prod.mk.injEq] at h
  obtain ⟨h1, rfl⟩ := h
  exact ZqP h1
 ·cases h
noncomputable section
abbrev eT {α : Type} (S : Sums) (f n : Nat) (d : List TR -> Option α) (l : List PV) : Option α := Z7W Try.prog S f n (fun _ => 1000000) d l
abbrev eF {α : Type} (fu : Nat) (S : Sums) (f n : Nat) (d : List TR -> Option α) (l : List PV) : Option α := Z7W Try.prog S f n (fun _ => fu + 100) d l
end
abbrev pI (x : Int) : PV := .v (.int .i64 x)
abbrev pA (x : P2) : PV := .v (.agg ⟨[.int .i64 x.1, .int .i64 x.2]⟩)
abbrev pB (x : P3) : PV := .v (.agg ⟨[.int .i64 x.1, .int .i64 x.2.1, .int .i64 x.2.2]⟩)
abbrev jN (n : Nat) : List SV := List.replicate n .junk
abbrev vI (x : Int) : SV := .val (.int .i64 x)
abbrev vB (x : Bool) : SV := .val (.bool x)
abbrev jK : SV := .junk
abbrev vT2 (x : P2) : SV := .val (.agg ⟨[.int .i64 x.1, .int .i64 x.2]⟩)
abbrev vT3 (x : P3) : SV := .val (.agg ⟨[.int .i64 x.1, .int .i64 x.2.1, .int .i64 x.2.2]⟩)
abbrev vT6 (x : Int × Int × Int × Int × Int × Int) : SV := .val (.agg ⟨[.int .i64 x.1, .int .i64 x.2.1, .int .i64 x.2.2.1, .int .i64 x.2.2.2.1, .int .i64 x.2.2.2.2.1, .int .i64 x.2.2.2.2.2]⟩)
abbrev STy := Nat × List Int × Int × Int
theorem tM : ∀ g run, tblM [] g = some run -> Callable Try.prog g /\ Zoe Try.prog g run := Z56 True.intro

end Go.Proofs.Ytfclaacaphpoaaa
