import Derived.Test.YtcdpfpfbilfpoaaGreatDoorDn
import Derived.Test.YtcdpfpfbilfpoaaGreatDoorProg
set_option linter.unusedSimpArgs false
set_option linter.unusedVariables false
namespace Go.Proofs.YtcdpfpfbilfpoaaGreatDoor
open Go.RowKit
def Z1M : List TR -> Option (Bool)
 | [.v (.bool x0)] => some x0
 | _ => none
def Z4k : Bool -> List TR
 | x0 => [.v (.bool x0)]
theorem Z9i (rs : List TR) (x : Bool) (h : Z1M rs = some x) : rs = Z4k x := by
 unfold Z1M at h
 split at h
 ·simp only [Option.some.injEq] at h
  subst h
  rfl
 ·cases h
def ZnH : TypeId × List Value -> Option (Int × Int)
 | (77, [.int .i64 c0, .int .u64 c1]) => some (c0, c1)
 | _ => none
def ZLl : Int × Int -> TypeId × List Value
 | (c0, c1) => (77, [.int .i64 c0, .int .u64 c1])
theorem ZQb (rs : TypeId × List Value) (x : P2) (h : ZnH rs = some x) : rs = ZLl x := by
 unfold ZnH at h
 split at h
 ·simp only [Option.some.injEq] at h
  subst h
  rfl
 ·cases h
def Zuv : List TR -> Option (D8i)
 | [.v (.agg ⟨[.int .i64 x0_0, .int .i64 x0_1, .int .i64 x0_2, .int .i64 x0_3, .int .i64 x0_4, .int .i64 x0_5, .int .i64 x0_6, .int .i64 x0_7]⟩)] => some (x0_0, x0_1, x0_2, x0_3, x0_4, x0_5, x0_6, x0_7)
 | _ => none
def ZAl : D8i -> List TR
 | (x0_0, x0_1, x0_2, x0_3, x0_4, x0_5, x0_6, x0_7) => [.v (.agg ⟨[.int .i64 x0_0, .int .i64 x0_1, .int .i64 x0_2, .int .i64 x0_3, .int .i64 x0_4, .int .i64 x0_5, .int .i64 x0_6, .int .i64 x0_7]⟩)]
theorem ZLi (rs : List TR) (x : D8i) (h : Zuv rs = some x) : rs = ZAl x := by
 unfold Zuv at h
 split at h
 ·simp only [Option.some.injEq] at h
  subst h
  rfl
 ·cases h
def Zdn : List Value × List BC -> Option (Int × Nat × List Int × Int × Int)
 | ([.int .i64 x0], [.s cn (.byts cl), .v (.int .i64 c_1), .v (.int .u64 c_2)]) => some (x0, cn, cl, c_1, c_2)
 | _ => none
def ZfW : Int × Nat × List Int × Int × Int -> List Value × List BC
 | (x0, cn, cl, c_1, c_2) => ([.int .i64 x0], [.s cn (.byts cl), .v (.int .i64 c_1), .v (.int .u64 c_2)])
theorem ZmC (rs : List Value × List BC) (x : Int × Nat × List Int × Int × Int) (h : Zdn rs = some x) : rs = ZfW x := by
 unfold Zdn at h
 split at h
 ·simp only [Option.some.injEq] at h
  subst h
  rfl
 ·cases h
def Z2E : List TR -> Option (ByteArray)
 | [.v (.string x0)] => some x0
 | _ => none
def Z9l : ByteArray -> List TR
 | x0 => [.v (.string x0)]
theorem Zkg (rs : List TR) (x : ByteArray) (h : Z2E rs = some x) : rs = Z9l x := by
 unfold Z2E at h
 split at h
 ·simp only [Option.some.injEq] at h
  subst h
  rfl
 ·cases h
def Zkh : List Value × List BC -> Option ((Int × Int) × Nat × List Int × Int × Int)
 | ([.agg ⟨[.int .i64 x0_0, .int .i64 x0_1]⟩], [.s cn (.byts cl), .v (.int .i64 c_1), .v (.int .u64 c_2)]) => some ((x0_0, x0_1), cn, cl, c_1, c_2)
 | _ => none
def ZpQ : (Int × Int) × Nat × List Int × Int × Int -> List Value × List BC
 | ((x0_0, x0_1), cn, cl, c_1, c_2) => ([.agg ⟨[.int .i64 x0_0, .int .i64 x0_1]⟩], [.s cn (.byts cl), .v (.int .i64 c_1), .v (.int .u64 c_2)])
theorem ZEF (rs : List Value × List BC) (x : (Int × Int) × Nat × List Int × Int × Int) (h : Zkh rs = some x) : rs = ZpQ x := by
 unfold Zkh at h
 split at h
 ·simp only [Option.some.injEq] at h
  subst h
  rfl
 ·cases h
def Z3E : List Value × List BC -> Option (ByteArray × Nat × List Int × Int × Int)
 | ([.string x0], [.s cn (.byts cl), .v (.int .i64 c_1), .v (.int .u64 c_2)]) => some (x0, cn, cl, c_1, c_2)
 | _ => none
def ZnI : ByteArray × Nat × List Int × Int × Int -> List Value × List BC
 | (x0, cn, cl, c_1, c_2) => ([.string x0], [.s cn (.byts cl), .v (.int .i64 c_1), .v (.int .u64 c_2)])
theorem ZAh (rs : List Value × List BC) (x : ByteArray × Nat × List Int × Int × Int) (h : Z3E rs = some x) : rs = ZnI x := by
 unfold Z3E at h
 split at h
 ·simp only [Option.some.injEq] at h
  subst h
  rfl
 ·cases h
def Z2f : List TR -> Option (Int)
 | [.v (.int .i64 x0)] => some x0
 | _ => none
def Z7e : Int -> List TR
 | x0 => [.v (.int .i64 x0)]
theorem Zdj (rs : List TR) (x : Int) (h : Z2f rs = some x) : rs = Z7e x := by
 unfold Z2f at h
 split at h
 ·simp only [Option.some.injEq] at h
  subst h
  rfl
 ·cases h
def Zj9 : List TR -> Option (Nat × List ByteArray)
 | [.s 9 1 n0 (.strs x0)] => some (n0, x0)
 | _ => none
def ZAp : Nat × List ByteArray -> List TR
 | (n0, x0) => [.s 9 1 n0 (.strs x0)]
theorem ZP1 (rs : List TR) (x : Nat × List ByteArray) (h : Zj9 rs = some x) : rs = ZAp x := by
 unfold Zj9 at h
 split at h
 ·simp only [Option.some.injEq] at h
  subst h
  rfl
 ·cases h
def Z7A : List TR -> Option (Int × Int)
 | [.v (.agg ⟨[.int .i64 x0_0, .int .i64 x0_1]⟩)] => some (x0_0, x0_1)
 | _ => none
def Zai : Int × Int -> List TR
 | (x0_0, x0_1) => [.v (.agg ⟨[.int .i64 x0_0, .int .i64 x0_1]⟩)]
theorem ZgD (rs : List TR) (x : P2) (h : Z7A rs = some x) : rs = Zai x := by
 unfold Z7A at h
 split at h
 ·simp only [Option.some.injEq] at h
  subst h
  rfl
 ·cases h
def Z57 : List TR -> Option ((Int × Int) × Int)
 | [.v (.agg ⟨[.int .i64 x0_0, .int .i64 x0_1]⟩), .v (.int .i64 x1)] => some ((x0_0, x0_1), x1)
 | _ => none
def Z5Y : (Int × Int) × Int -> List TR
 | ((x0_0, x0_1), x1) => [.v (.agg ⟨[.int .i64 x0_0, .int .i64 x0_1]⟩), .v (.int .i64 x1)]
theorem Z8W (rs : List TR) (x : (Int × Int) × Int) (h : Z57 rs = some x) : rs = Z5Y x := by
 unfold Z57 at h
 split at h
 ·simp only [Option.some.injEq] at h
  subst h
  rfl
 ·cases h
def Zah : List TR -> Option (Int × Int × Int)
 | [.v (.agg ⟨[.int .i64 x0_0, .int .i64 x0_1, .int .i64 x0_2]⟩)] => some (x0_0, x0_1, x0_2)
 | _ => none
def Zf7 : Int × Int × Int -> List TR
 | (x0_0, x0_1, x0_2) => [.v (.agg ⟨[.int .i64 x0_0, .int .i64 x0_1, .int .i64 x0_2]⟩)]
theorem ZmD (rs : List TR) (x : P3) (h : Zah rs = some x) : rs = Zf7 x := by
 unfold Zah at h
 split at h
 ·simp only [Option.some.injEq] at h
  subst h
  rfl
 ·cases h
def Z8g : List TR -> Option ((Int × Int × Int) × Int)
 | [.v (.agg ⟨[.int .i64 x0_0, .int .i64 x0_1, .int .i64 x0_2]⟩), .v (.int .i64 x1)] => some ((x0_0, x0_1, x0_2), x1)
 | _ => none
def Z9j : (Int × Int × Int) × Int -> List TR
 | ((x0_0, x0_1, x0_2), x1) => [.v (.agg ⟨[.int .i64 x0_0, .int .i64 x0_1, .int .i64 x0_2]⟩), .v (.int .i64 x1)]
theorem ZdY (rs : List TR) (x : (Int × Int × Int) × Int) (h : Z8g rs = some x) : rs = Z9j x := by
 unfold Z8g at h
 split at h
 ·simp only [Option.some.injEq] at h
  subst h
  rfl
 ·cases h
def ZrX : List TR -> Option ((Int × Int) × Bool)
 | [.v (.agg ⟨[.int .i64 x0_0, .int .i64 x0_1]⟩), .v (.bool x1)] => some ((x0_0, x0_1), x1)
 | _ => none
def ZAk : (Int × Int) × Bool -> List TR
 | ((x0_0, x0_1), x1) => [.v (.agg ⟨[.int .i64 x0_0, .int .i64 x0_1]⟩), .v (.bool x1)]
theorem ZLh (rs : List TR) (x : (Int × Int) × Bool) (h : ZrX rs = some x) : rs = ZAk x := by
 unfold ZrX at h
 split at h
 ·simp only [Option.some.injEq] at h
  subst h
  rfl
 ·cases h
def Ze0 : List TR -> Option (Int × Int)
 | [.v (.int .i64 x0), .v (.int .i64 x1)] => some (x0, x1)
 | _ => none
def ZfL : Int × Int -> List TR
 | (x0, x1) => [.v (.int .i64 x0), .v (.int .i64 x1)]
theorem ZmE (rs : List TR) (x : P2) (h : Ze0 rs = some x) : rs = ZfL x := by
 unfold Ze0 at h
 split at h
 ·simp only [Option.some.injEq] at h
  subst h
  rfl
 ·cases h
def ZG5 : List TR -> Option (Bool × Int)
 | [.v (.bool x0), .v (.int .i64 x1)] => some (x0, x1)
 | _ => none
def ZLm : Bool × Int -> List TR
 | (x0, x1) => [.v (.bool x0), .v (.int .i64 x1)]
theorem ZQc (rs : List TR) (x : Bool × Int) (h : ZG5 rs = some x) : rs = ZLm x := by
 unfold ZG5 at h
 split at h
 ·simp only [Option.some.injEq] at h
  subst h
  rfl
 ·cases h
def Z7N : List TR -> Option ((Nat × List Int) × Int)
 | [.s 25 2 n0 (.ints x0), .v (.int .i64 x1)] => some ((n0, x0), x1)
 | _ => none
def Z9k : (Nat × List Int) × Int -> List TR
 | ((n0, x0), x1) => [.s 25 2 n0 (.ints x0), .v (.int .i64 x1)]
theorem Zdk (rs : List TR) (x : (Nat × List Int) × Int) (h : Z7N rs = some x) : rs = Z9k x := by
 unfold Z7N at h
 split at h
 ·simp only [Option.some.injEq] at h
  subst h
  rfl
 ·cases h
def Z0k : List TR -> Option (Nat × List Int)
 | [.s 25 2 n0 (.ints x0)] => some (n0, x0)
 | _ => none
def Zdq : Nat × List Int -> List TR
 | (n0, x0) => [.s 25 2 n0 (.ints x0)]
theorem Zj8 (rs : List TR) (x : Nat × List Int) (h : Z0k rs = some x) : rs = Zdq x := by
 unfold Z0k at h
 split at h
 ·simp only [Option.some.injEq] at h
  subst h
  rfl
 ·cases h
def Zdp : List TR -> Option ((Nat × List Int) × Int)
 | [.s 2 1 n0 (.ints x0), .v (.int .i64 x1)] => some ((n0, x0), x1)
 | _ => none
def ZgJ : (Nat × List Int) × Int -> List TR
 | ((n0, x0), x1) => [.s 2 1 n0 (.ints x0), .v (.int .i64 x1)]
theorem ZnG (rs : List TR) (x : (Nat × List Int) × Int) (h : Zdp rs = some x) : rs = ZgJ x := by
 unfold Zdp at h
 split at h
 ·simp only [Option.some.injEq] at h
  subst h
  rfl
 ·cases h
def Z5o : List TR -> Option ((Nat × List Int) × Int)
 | [.s 90 3 n0 (.ints x0), .v (.int .i64 x1)] => some ((n0, x0), x1)
 | _ => none
def ZbB : (Nat × List Int) × Int -> List TR
 | ((n0, x0), x1) => [.s 90 3 n0 (.ints x0), .v (.int .i64 x1)]
theorem ZgE (rs : List TR) (x : (Nat × List Int) × Int) (h : Z5o rs = some x) : rs = ZbB x := by
 unfold Z5o at h
 split at h
 ·simp only [Option.some.injEq] at h
  subst h
  rfl
 ·cases h
def ZfJ : List TR -> Option (ByteArray × Int)
 | [.v (.string x0), .v (.int .i64 x1)] => some (x0, x1)
 | _ => none
def ZhG : ByteArray × Int -> List TR
 | (x0, x1) => [.v (.string x0), .v (.int .i64 x1)]
theorem ZpO (rs : List TR) (x : ByteArray × Int) (h : ZfJ rs = some x) : rs = ZhG x := by
 unfold ZfJ at h
 split at h
 ·simp only [Option.some.injEq] at h
  subst h
  rfl
 ·cases h
def Zdo : List TR -> Option ((D8i) × ByteArray × Int)
 | [.v (.agg ⟨[.int .i64 x0_0, .int .i64 x0_1, .int .i64 x0_2, .int .i64 x0_3, .int .i64 x0_4, .int .i64 x0_5, .int .i64 x0_6, .int .i64 x0_7]⟩), .v (.string x1), .v (.int .i64 x2)] => some ((x0_0, x0_1, x0_2, x0_3, x0_4, x0_5, x0_6, x0_7), x1, x2)
 | _ => none
def ZgI : (D8i) × ByteArray × Int -> List TR
 | ((x0_0, x0_1, x0_2, x0_3, x0_4, x0_5, x0_6, x0_7), x1, x2) => [.v (.agg ⟨[.int .i64 x0_0, .int .i64 x0_1, .int .i64 x0_2, .int .i64 x0_3, .int .i64 x0_4, .int .i64 x0_5, .int .i64 x0_6, .int .i64 x0_7]⟩), .v (.string x1), .v (.int .i64 x2)]
theorem ZnF (rs : List TR) (x : (D8i) × ByteArray × Int) (h : Zdo rs = some x) : rs = ZgI x := by
 unfold Zdo at h
 split at h
 ·simp only [Option.some.injEq] at h
  subst h
  rfl
 ·cases h
def ZgF : List TR -> Option (Nat × List Int)
 | [.s 2 1 n0 (.ints x0)] => some (n0, x0)
 | _ => none
def ZAn : Nat × List Int -> List TR
 | (n0, x0) => [.s 2 1 n0 (.ints x0)]
theorem ZLk (rs : List TR) (x : Nat × List Int) (h : ZgF rs = some x) : rs = ZAn x := by
 unfold ZgF at h
 split at h
 ·simp only [Option.some.injEq] at h
  subst h
  rfl
 ·cases h
def ZmH : List TR -> Option ((D8i) × ByteArray)
 | [.v (.agg ⟨[.int .i64 x0_0, .int .i64 x0_1, .int .i64 x0_2, .int .i64 x0_3, .int .i64 x0_4, .int .i64 x0_5, .int .i64 x0_6, .int .i64 x0_7]⟩), .v (.string x1)] => some ((x0_0, x0_1, x0_2, x0_3, x0_4, x0_5, x0_6, x0_7), x1)
 | _ => none
def Zs1 : (D8i) × ByteArray -> List TR
 | ((x0_0, x0_1, x0_2, x0_3, x0_4, x0_5, x0_6, x0_7), x1) => [.v (.agg ⟨[.int .i64 x0_0, .int .i64 x0_1, .int .i64 x0_2, .int .i64 x0_3, .int .i64 x0_4, .int .i64 x0_5, .int .i64 x0_6, .int .i64 x0_7]⟩), .v (.string x1)]
theorem ZG4 (rs : List TR) (x : (D8i) × ByteArray) (h : ZmH rs = some x) : rs = Zs1 x := by
 unfold ZmH at h
 split at h
 ·simp only [Option.some.injEq] at h
  subst h
  rfl
 ·cases h
def Zdm : List Value × List BC -> Option ((D8i) × Nat × List Int × Int × Int)
 | ([.agg ⟨[.int .i64 x0_0, .int .i64 x0_1, .int .i64 x0_2, .int .i64 x0_3, .int .i64 x0_4, .int .i64 x0_5, .int .i64 x0_6, .int .i64 x0_7]⟩], [.s cn (.byts cl), .v (.int .i64 c_1), .v (.int .u64 c_2)]) => some ((x0_0, x0_1, x0_2, x0_3, x0_4, x0_5, x0_6, x0_7), cn, cl, c_1, c_2)
 | _ => none
def ZAj : (D8i) × Nat × List Int × Int × Int -> List Value × List BC
 | ((x0_0, x0_1, x0_2, x0_3, x0_4, x0_5, x0_6, x0_7), cn, cl, c_1, c_2) => ([.agg ⟨[.int .i64 x0_0, .int .i64 x0_1, .int .i64 x0_2, .int .i64 x0_3, .int .i64 x0_4, .int .i64 x0_5, .int .i64 x0_6, .int .i64 x0_7]⟩], [.s cn (.byts cl), .v (.int .i64 c_1), .v (.int .u64 c_2)])
theorem ZMC (rs : List Value × List BC) (x : (D8i) × Nat × List Int × Int × Int) (h : Zdm rs = some x) : rs = ZAj x := by
 unfold Zdm at h
 split at h
 ·simp only [Option.some.injEq] at h
  subst h
  rfl
 ·cases h
def ZdZ : List Value × List BC -> Option (ByteArray × Int × Bool × D8i)
 | ([.string x0, .int .i64 x1, .bool x2], [.v (.int .i64 c_0), .v (.int .i64 c_1), .v (.int .i64 c_2), .v (.int .i64 c_3), .v (.int .i64 c_4), .v (.int .i64 c_5), .v (.int .i64 c_6), .v (.int .i64 c_7)]) => some (x0, x1, x2, c_0, c_1, c_2, c_3, c_4, c_5, c_6, c_7)
 | _ => none
def Zix : ByteArray × Int × Bool × D8i -> List Value × List BC
 | (x0, x1, x2, c_0, c_1, c_2, c_3, c_4, c_5, c_6, c_7) => ([.string x0, .int .i64 x1, .bool x2], [.v (.int .i64 c_0), .v (.int .i64 c_1), .v (.int .i64 c_2), .v (.int .i64 c_3), .v (.int .i64 c_4), .v (.int .i64 c_5), .v (.int .i64 c_6), .v (.int .i64 c_7)])
theorem ZrW (rs : List Value × List BC) (x : ByteArray × Int × Bool × D8i) (h : ZdZ rs = some x) : rs = Zix x := by
 unfold ZdZ at h
 split at h
 ·simp only [Option.some.injEq] at h
  subst h
  rfl
 ·cases h
def Z8C : List TR -> Option (Nat × List Int)
 | [.s 90 3 n0 (.ints x0)] => some (n0, x0)
 | _ => none
def Zuw : Nat × List Int -> List TR
 | (n0, x0) => [.s 90 3 n0 (.ints x0)]
theorem ZIc (rs : List TR) (x : Nat × List Int) (h : Z8C rs = some x) : rs = Zuw x := by
 unfold Z8C at h
 split at h
 ·simp only [Option.some.injEq] at h
  subst h
  rfl
 ·cases h
def Z73 : List TR -> Option ((Nat × List Int) × Bool)
 | [.s 2 1 n0 (.ints x0), .v (.bool x1)] => some ((n0, x0), x1)
 | _ => none
def ZAo : (Nat × List Int) × Bool -> List TR
 | ((n0, x0), x1) => [.s 2 1 n0 (.ints x0), .v (.bool x1)]
theorem ZMD (rs : List TR) (x : (Nat × List Int) × Bool) (h : Z73 rs = some x) : rs = ZAo x := by
 unfold Z73 at h
 split at h
 ·simp only [Option.some.injEq] at h
  subst h
  rfl
 ·cases h
def ZfI : List TR -> Option (Int × Bool)
 | [.v (.int .i64 x0), .v (.bool x1)] => some (x0, x1)
 | _ => none
def ZG7 : Int × Bool -> List TR
 | (x0, x1) => [.v (.int .i64 x0), .v (.bool x1)]
theorem ZNN (rs : List TR) (x : Int × Bool) (h : ZfI rs = some x) : rs = ZG7 x := by
 unfold ZfI at h
 split at h
 ·simp only [Option.some.injEq] at h
  subst h
  rfl
 ·cases h
def ZmG : List Value × List BC -> Option (ByteArray × Int × D8i)
 | ([.string x0, .int .i64 x1], [.v (.int .i64 c_0), .v (.int .i64 c_1), .v (.int .i64 c_2), .v (.int .i64 c_3), .v (.int .i64 c_4), .v (.int .i64 c_5), .v (.int .i64 c_6), .v (.int .i64 c_7)]) => some (x0, x1, c_0, c_1, c_2, c_3, c_4, c_5, c_6, c_7)
 | _ => none
def ZwF : ByteArray × Int × D8i -> List Value × List BC
 | (x0, x1, c_0, c_1, c_2, c_3, c_4, c_5, c_6, c_7) => ([.string x0, .int .i64 x1], [.v (.int .i64 c_0), .v (.int .i64 c_1), .v (.int .i64 c_2), .v (.int .i64 c_3), .v (.int .i64 c_4), .v (.int .i64 c_5), .v (.int .i64 c_6), .v (.int .i64 c_7)])
theorem ZK1 (rs : List Value × List BC) (x : ByteArray × Int × D8i) (h : ZmG rs = some x) : rs = ZwF x := by
 unfold ZmG at h
 split at h
 ·simp only [Option.some.injEq] at h
  subst h
  rfl
 ·cases h
def ZK3 : (Nat × List ByteArray) × Bool -> List TR
 | ((n0, x0), x1) => [.s 9 1 n0 (.strs x0), .v (.bool x1)]
def Z4W : List TR -> Option ((D8i) × ByteArray × Bool)
 | [.v (.agg ⟨[.int .i64 x0_0, .int .i64 x0_1, .int .i64 x0_2, .int .i64 x0_3, .int .i64 x0_4, .int .i64 x0_5, .int .i64 x0_6, .int .i64 x0_7]⟩), .v (.string x1), .v (.bool x2)] => some ((x0_0, x0_1, x0_2, x0_3, x0_4, x0_5, x0_6, x0_7), x1, x2)
 | _ => none
def ZpR : (D8i) × ByteArray × Bool -> List TR
 | ((x0_0, x0_1, x0_2, x0_3, x0_4, x0_5, x0_6, x0_7), x1, x2) => [.v (.agg ⟨[.int .i64 x0_0, .int .i64 x0_1, .int .i64 x0_2, .int .i64 x0_3, .int .i64 x0_4, .int .i64 x0_5, .int .i64 x0_6, .int .i64 x0_7]⟩), .v (.string x1), .v (.bool x2)]
theorem ZEG (rs : List TR) (x : (D8i) × ByteArray × Bool) (h : Z4W rs = some x) : rs = ZpR x := by
 unfold Z4W at h
 split at h
 ·simp only [Option.some.injEq] at h
  subst h
  rfl
 ·cases h
def ZrY : List TR -> Option ((D8i) × Bool)
 | [.v (.agg ⟨[.int .i64 x0_0, .int .i64 x0_1, .int .i64 x0_2, .int .i64 x0_3, .int .i64 x0_4, .int .i64 x0_5, .int .i64 x0_6, .int .i64 x0_7]⟩), .v (.bool x1)] => some ((x0_0, x0_1, x0_2, x0_3, x0_4, x0_5, x0_6, x0_7), x1)
 | _ => none
def ZAm : (D8i) × Bool -> List TR
 | ((x0_0, x0_1, x0_2, x0_3, x0_4, x0_5, x0_6, x0_7), x1) => [.v (.agg ⟨[.int .i64 x0_0, .int .i64 x0_1, .int .i64 x0_2, .int .i64 x0_3, .int .i64 x0_4, .int .i64 x0_5, .int .i64 x0_6, .int .i64 x0_7]⟩), .v (.bool x1)]
theorem ZLj (rs : List TR) (x : (D8i) × Bool) (h : ZrY rs = some x) : rs = ZAm x := by
 unfold ZrY at h
 split at h
 ·simp only [Option.some.injEq] at h
  subst h
  rfl
 ·cases h
def ZG2 (k h : Bool) : List Value -> Option (Bool × Value)
 | [] => some (k, .bool (h))
 | _ => none
theorem ZMz (g : List Value -> Option (Bool × Value)) : ∀ args r, ZG2 (okV (g [])) (Zen (g [])) args = some (true, r) -> g args = some (true, r) := by
 intro args r h
 unfold ZG2 at h
 split at h
 ·simp only [Option.some.injEq, Prod.mk.injEq] at h
  obtain ⟨h1, rfl⟩ := h
  exact Zsy h1
 ·cases h
def Zj6 (k : (Int × Int) -> Bool) (h : (Int × Int) -> Bool) : List Value -> Option (Bool × Value)
 | [.agg ⟨[.int .i64 a0_0, .int .i64 a0_1]⟩] => some (k (a0_0, a0_1), .bool (h (a0_0, a0_1)))
 | _ => none
theorem ZI5 (g : List Value -> Option (Bool × Value)) : ∀ args r, Zj6 (fun a0 => okV (g [.agg ⟨[.int .i64 a0.1, .int .i64 a0.2]⟩])) (fun a0 => Zen (g [.agg ⟨[.int .i64 a0.1, .int .i64 a0.2]⟩])) args = some (true, r) -> g args = some (true, r) := by
 intro args r h
 unfold Zj6 at h
 split at h
 ·simp only [Option.some.injEq, Prod.mk.injEq] at h
  obtain ⟨h1, rfl⟩ := h
  exact Zsy h1
 ·cases h
def Zj7 (k : (Int × Int × Int) -> Bool) (h : (Int × Int × Int) -> Bool) : List Value -> Option (Bool × Value)
 | [.agg ⟨[.int .i64 a0_0, .int .i64 a0_1, .int .i64 a0_2]⟩] => some (k (a0_0, a0_1, a0_2), .bool (h (a0_0, a0_1, a0_2)))
 | _ => none
theorem ZI6 (g : List Value -> Option (Bool × Value)) : ∀ args r, Zj7 (fun a0 => okV (g [.agg ⟨[.int .i64 a0.1, .int .i64 a0.2.1, .int .i64 a0.2.2]⟩])) (fun a0 => Zen (g [.agg ⟨[.int .i64 a0.1, .int .i64 a0.2.1, .int .i64 a0.2.2]⟩])) args = some (true, r) -> g args = some (true, r) := by
 intro args r h
 unfold Zj7 at h
 split at h
 ·simp only [Option.some.injEq, Prod.mk.injEq] at h
  obtain ⟨h1, rfl⟩ := h
  exact Zsy h1
 ·cases h
def Zz1 (k h : Int -> Bool) : List Value -> Option (Bool × Value)
 | [.int .i64 a0] => some (k a0, .bool (h a0))
 | _ => none
theorem ZK0 (g : List Value -> Option (Bool × Value)) : ∀ args r, Zz1 (fun a0 => okV (g [.int .i64 a0])) (fun a0 => Zen (g [.int .i64 a0])) args = some (true, r) -> g args = some (true, r) := by
 intro args r h
 unfold Zz1 at h
 split at h
 ·simp only [Option.some.injEq, Prod.mk.injEq] at h
  obtain ⟨h1, rfl⟩ := h
  exact Zsy h1
 ·cases h
noncomputable section
abbrev eT {α : Type} (S : Sums) (f n : Nat) (d : List TR -> Option α) (l : List PV) : Option α := ZmO Tryz.prog S f n (fun _ => 1000000) d l
abbrev eF {α : Type} (fu : Nat) (S : Sums) (f n : Nat) (d : List TR -> Option α) (l : List PV) : Option α := ZmO Tryz.prog S f n (fun _ => fu + 100) d l
end
abbrev pI (x : Int) : PV := .v (.int .i64 x)
abbrev pA (x : P2) : PV := .v (.agg ⟨[.int .i64 x.1, .int .i64 x.2]⟩)
abbrev pB (x : P3) : PV := .v (.agg ⟨[.int .i64 x.1, .int .i64 x.2.1, .int .i64 x.2.2]⟩)
abbrev jN (n : Nat) : List SV := List.replicate n .junk
abbrev vI (x : Int) : SV := .val (.int .i64 x)
abbrev vB (x : Bool) : SV := .val (.bool x)
abbrev jK : SV := .junk
abbrev STy := Nat × List Int × Int × Int
theorem tM : ∀ g run, tblM [] g = some run -> Callable Tryz.prog g /\ ZFU Tryz.prog g run := Z6a True.intro

end Go.Proofs.YtcdpfpfbilfpoaaGreatDoor
