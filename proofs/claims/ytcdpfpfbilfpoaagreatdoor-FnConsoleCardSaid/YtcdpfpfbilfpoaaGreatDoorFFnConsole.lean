import Derived.Test.YtcdpfpfbilfpoaaGreatDoorFj
import Derived.Test.YtcdpfpfbilfpoaaGreatDoorProg
set_option linter.unusedSimpArgs false
set_option linter.unusedVariables false
namespace Go.Proofs.YtcdpfpfbilfpoaaGreatDoor
open Go.RowKit Tryz
noncomputable section
abbrev Z0C (Z3 : Nat) (Z4 : List Int) : (D8i) × ByteArray := (Z08 ((Z1 Z3 Z4).1) ((Z1 Z3 Z4).2))
abbrev Z1z (Z3 : Nat) (Z4 : List Int) : (D8i) × ByteArray := (Zs ((Z1 Z3 Z4).1) ((Z1 Z3 Z4).2))
abbrev Zy4 (Z3 : Nat) (Z4 : List Int) : Bool := (ZfM ((Z0C Z3 Z4).1) ((Z1z Z3 Z4).1))
abbrev Zy5 (Z3 : Nat) (Z4 : List Int) : Bool := (Z0n ((Z1 Z3 Z4).1))
abbrev Zof (Z3 : Nat) (Z4 : List Int) : Bool := (Z9C ((Z1 Z3 Z4).1))
abbrev ZKC (Z3 : Nat) (Z4 : List Int) : Bool := (Z0n ((Z0C Z3 Z4).1))
abbrev ZIX (Z3 : Nat) (Z4 : List Int) : Bool := (ZfM ((Z0C Z3 Z4).1) ((Z1 Z3 Z4).1))
abbrev ZiC (Z3 : Nat) (Z4 : List Int) : ByteArray := (Z8D (Z9 Z3 Z4))
abbrev Z1W (Z3 : Nat) (Z4 : List Int) : (D8i) × Bool := (Z5q (Z9 Z3 Z4))
abbrev Z2F (Z3 : Nat) (Z4 : List Int) : (D8i) × Bool := (Z9B (Z9 Z3 Z4))
abbrev ZmT (Z3 : Nat) (Z4 : List Int) : ByteArray := (ZdR (Z9 Z3 Z4))
def Z4m : Sums := ⟨tblS [(12, Zvr), (13, ZcB), (14, Ze2), (15, Z8J), (16, Znd), (17, ZfN), (18, ZfO), (19, ZaI), (20, ZcA), (8, ZiE), (10, Zfb), (9, Zfk), (7, ZiJ)], tblM [], false⟩
theorem Zzv : Ze prog Z4m := ⟨Za ⟨⟨call12, ZJq⟩, ⟨call13, ZoE⟩, ⟨call14, Zlp⟩, ⟨call15, Zb1⟩, ⟨call16, ZDS⟩, ⟨call17, Znk⟩, ⟨call18, Znp⟩, ⟨call19, Zfr⟩, ⟨call20, ZoD⟩, ⟨call8, Zyk⟩, ⟨call10, ZsT⟩, ⟨call9, Zt6⟩, ⟨call7, Zyp⟩, ⟨⟩⟩, tM⟩
def Zxr (n : Nat) (l : List Int) (Z0t Z0u : Int) (Z0v Z0w : Int) (Z0x Z0y : Int) (Z0z Z0A : Int) (got : ByteArray) (begin i : Int) : Tab := ⟨[.row 0, jK, vB (false), .ptr 12 0, .val (.string ((Z1 n l).2)), .ptr 20 0, .val (.string ((Z0C n l).2)), .ptr 28 0, .val (.string ((Z1z n l).2)), .val (.string (Z9 n l)), .val (.string (ZiC n l)), .ptr 44 0, vB ((Z1W n l).2), .ptr 52 0, vB ((Z2F n l).2), .ptr 60 0, .val (.string got), vI (begin), vI (i), jK, jK, .row 0, vB (Zsn n l), jK, .row 0, jK, .val (.agg ⟨[.int .i64 (((Z1 n l).1).1), .int .i64 (((Z1 n l).1).2.1), .int .i64 (((Z1 n l).1).2.2.1), .int .i64 (((Z1 n l).1).2.2.2.1), .int .i64 (((Z1 n l).1).2.2.2.2.1), .int .i64 (((Z1 n l).1).2.2.2.2.2.1), .int .i64 (((Z1 n l).1).2.2.2.2.2.2.1), .int .i64 (((Z1 n l).1).2.2.2.2.2.2.2)]⟩), .val (.string ((Z1 n l).2)), jK, .val (.agg ⟨[.int .i64 (((Z1 n l).1).1), .int .i64 (((Z1 n l).1).2.1), .int .i64 (((Z1 n l).1).2.2.1), .int .i64 (((Z1 n l).1).2.2.2.1), .int .i64 (((Z1 n l).1).2.2.2.2.1), .int .i64 (((Z1 n l).1).2.2.2.2.2.1), .int .i64 (((Z1 n l).1).2.2.2.2.2.2.1), .int .i64 (((Z1 n l).1).2.2.2.2.2.2.2)]⟩), .val (.string ((Z1 n l).2)), jK, .val (.agg ⟨[.int .i64 (((Z0C n l).1).1), .int .i64 (((Z0C n l).1).2.1), .int .i64 (((Z0C n l).1).2.2.1), .int .i64 (((Z0C n l).1).2.2.2.1), .int .i64 (((Z0C n l).1).2.2.2.2.1), .int .i64 (((Z0C n l).1).2.2.2.2.2.1), .int .i64 (((Z0C n l).1).2.2.2.2.2.2.1), .int .i64 (((Z0C n l).1).2.2.2.2.2.2.2)]⟩), .val (.string ((Z0C n l).2)), jK, .val (.agg ⟨[.int .i64 (((Z1 n l).1).1), .int .i64 (((Z1 n l).1).2.1), .int .i64 (((Z1 n l).1).2.2.1), .int .i64 (((Z1 n l).1).2.2.2.1), .int .i64 (((Z1 n l).1).2.2.2.2.1), .int .i64 (((Z1 n l).1).2.2.2.2.2.1), .int .i64 (((Z1 n l).1).2.2.2.2.2.2.1), .int .i64 (((Z1 n l).1).2.2.2.2.2.2.2)]⟩), .val (.string ((Z1 n l).2)), jK, .val (.agg ⟨[.int .i64 (((Z1z n l).1).1), .int .i64 (((Z1z n l).1).2.1), .int .i64 (((Z1z n l).1).2.2.1), .int .i64 (((Z1z n l).1).2.2.2.1), .int .i64 (((Z1z n l).1).2.2.2.2.1), .int .i64 (((Z1z n l).1).2.2.2.2.2.1), .int .i64 (((Z1z n l).1).2.2.2.2.2.2.1), .int .i64 (((Z1z n l).1).2.2.2.2.2.2.2)]⟩), .val (.string ((Z1z n l).2)), .val (.string ((Z0C n l).2)), .val (.string ((Z1z n l).2)), vB ((!(eqS ((Z0C n l).2) ((Z1z n l).2)))), vB (false), .val (.agg ⟨[.int .i64 (((Z0C n l).1).1), .int .i64 (((Z0C n l).1).2.1), .int .i64 (((Z0C n l).1).2.2.1), .int .i64 (((Z0C n l).1).2.2.2.1), .int .i64 (((Z0C n l).1).2.2.2.2.1), .int .i64 (((Z0C n l).1).2.2.2.2.2.1), .int .i64 (((Z0C n l).1).2.2.2.2.2.2.1), .int .i64 (((Z0C n l).1).2.2.2.2.2.2.2)]⟩), .val (.agg ⟨[.int .i64 (((Z1z n l).1).1), .int .i64 (((Z1z n l).1).2.1), .int .i64 (((Z1z n l).1).2.2.1), .int .i64 (((Z1z n l).1).2.2.2.1), .int .i64 (((Z1z n l).1).2.2.2.2.1), .int .i64 (((Z1z n l).1).2.2.2.2.2.1), .int .i64 (((Z1z n l).1).2.2.2.2.2.2.1), .int .i64 (((Z1z n l).1).2.2.2.2.2.2.2)]⟩), vB (Zy4 n l), vB ((!(Zy4 n l))), vB ((!(Zy4 n l))), vB (false), .val (.agg ⟨[.int .i64 (((Z1 n l).1).1), .int .i64 (((Z1 n l).1).2.1), .int .i64 (((Z1 n l).1).2.2.1), .int .i64 (((Z1 n l).1).2.2.2.1), .int .i64 (((Z1 n l).1).2.2.2.2.1), .int .i64 (((Z1 n l).1).2.2.2.2.2.1), .int .i64 (((Z1 n l).1).2.2.2.2.2.2.1), .int .i64 (((Z1 n l).1).2.2.2.2.2.2.2)]⟩), vB (Zy5 n l), .val (.agg ⟨[.int .i64 (((Z1 n l).1).1), .int .i64 (((Z1 n l).1).2.1), .int .i64 (((Z1 n l).1).2.2.1), .int .i64 (((Z1 n l).1).2.2.2.1), .int .i64 (((Z1 n l).1).2.2.2.2.1), .int .i64 (((Z1 n l).1).2.2.2.2.2.1), .int .i64 (((Z1 n l).1).2.2.2.2.2.2.1), .int .i64 (((Z1 n l).1).2.2.2.2.2.2.2)]⟩), vB (Zof n l), vB ((!((Zy5 n l) == (Zof n l)))), vB ((!((Zy5 n l) == (Zof n l)))), vB (false), .val (.agg ⟨[.int .i64 Zg.1, .int .i64 Zg.2.1, .int .i64 Zg.2.2.1, .int .i64 Zg.2.2.2.1, .int .i64 Zg.2.2.2.2.1, .int .i64 Zg.2.2.2.2.2.1, .int .i64 Zg.2.2.2.2.2.2.1, .int .i64 Zg.2.2.2.2.2.2.2]⟩), vB ((Z0n Zg)), vB ((!(Z0n Zg))), vB ((!(Z0n Zg))), .val (.agg ⟨[.int .i64 (((Z1 n l).1).1), .int .i64 (((Z1 n l).1).2.1), .int .i64 (((Z1 n l).1).2.2.1), .int .i64 (((Z1 n l).1).2.2.2.1), .int .i64 (((Z1 n l).1).2.2.2.2.1), .int .i64 (((Z1 n l).1).2.2.2.2.2.1), .int .i64 (((Z1 n l).1).2.2.2.2.2.2.1), .int .i64 (((Z1 n l).1).2.2.2.2.2.2.2)]⟩), vB (Zof n l), vB (true), .val (.agg ⟨[.int .i64 (((Z0C n l).1).1), .int .i64 (((Z0C n l).1).2.1), .int .i64 (((Z0C n l).1).2.2.1), .int .i64 (((Z0C n l).1).2.2.2.1), .int .i64 (((Z0C n l).1).2.2.2.2.1), .int .i64 (((Z0C n l).1).2.2.2.2.2.1), .int .i64 (((Z0C n l).1).2.2.2.2.2.2.1), .int .i64 (((Z0C n l).1).2.2.2.2.2.2.2)]⟩), vB (ZKC n l), vB ((!(ZKC n l))), vB (false), .val (.string ((Z0C n l).2)), vB ((eqS ((Z0C n l).2) (bs [101, 114, 114, 111, 114]))), vB (true), .val (.agg ⟨[.int .i64 (((Z0C n l).1).1), .int .i64 (((Z0C n l).1).2.1), .int .i64 (((Z0C n l).1).2.2.1), .int .i64 (((Z0C n l).1).2.2.2.1), .int .i64 (((Z0C n l).1).2.2.2.2.1), .int .i64 (((Z0C n l).1).2.2.2.2.2.1), .int .i64 (((Z0C n l).1).2.2.2.2.2.2.1), .int .i64 (((Z0C n l).1).2.2.2.2.2.2.2)]⟩), .val (.agg ⟨[.int .i64 (((Z1 n l).1).1), .int .i64 (((Z1 n l).1).2.1), .int .i64 (((Z1 n l).1).2.2.1), .int .i64 (((Z1 n l).1).2.2.2.1), .int .i64 (((Z1 n l).1).2.2.2.2.1), .int .i64 (((Z1 n l).1).2.2.2.2.2.1), .int .i64 (((Z1 n l).1).2.2.2.2.2.2.1), .int .i64 (((Z1 n l).1).2.2.2.2.2.2.2)]⟩), vB (ZIX n l), vB ((!(ZIX n l))), vB ((!(ZIX n l))), vB ((!(ZIX n l))), vB ((!(ZIX n l))), .row 0, .val (.string (Z9 n l)), .val (.string (Z9 n l)), .val (.string (ZiC n l)), jK, .val (.string (Z9 n l)), jK, .val (.agg ⟨[.int .i64 (((Z1W n l).1).1), .int .i64 (((Z1W n l).1).2.1), .int .i64 (((Z1W n l).1).2.2.1), .int .i64 (((Z1W n l).1).2.2.2.1), .int .i64 (((Z1W n l).1).2.2.2.2.1), .int .i64 (((Z1W n l).1).2.2.2.2.2.1), .int .i64 (((Z1W n l).1).2.2.2.2.2.2.1), .int .i64 (((Z1W n l).1).2.2.2.2.2.2.2)]⟩), vB ((Z1W n l).2), jK, .val (.string (Z9 n l)), jK, .val (.agg ⟨[.int .i64 (((Z2F n l).1).1), .int .i64 (((Z2F n l).1).2.1), .int .i64 (((Z2F n l).1).2.2.1), .int .i64 (((Z2F n l).1).2.2.2.1), .int .i64 (((Z2F n l).1).2.2.2.2.1), .int .i64 (((Z2F n l).1).2.2.2.2.2.1), .int .i64 (((Z2F n l).1).2.2.2.2.2.2.1), .int .i64 (((Z2F n l).1).2.2.2.2.2.2.2)]⟩), vB ((Z2F n l).2), .val (.string (ZiC n l)), .val (.string (Z9 n l)), .val (.string (ZmT n l)), vB ((!(eqS (ZiC n l) (ZmT n l)))), vB (false), vB ((Z1W n l).2), vB ((Z2F n l).2), vB ((!(((Z1W n l).2) == ((Z2F n l).2)))), vB ((!(((Z1W n l).2) == ((Z2F n l).2)))), vB ((Z1W n l).2), vB ((!((Z1W n l).2))), jK, jK, .val (.agg ⟨[.int .i64 Zg.1, .int .i64 Zg.2.1, .int .i64 Zg.2.2.1, .int .i64 Zg.2.2.2.1, .int .i64 Zg.2.2.2.2.1, .int .i64 Zg.2.2.2.2.2.1, .int .i64 Zg.2.2.2.2.2.2.1, .int .i64 Zg.2.2.2.2.2.2.2]⟩), ] ++ (jN 42 ++ [jK]), [(0, .ros n (.byts l)), (12, .box 28 [vI ((((Z1 n l).1).1)), vI ((((Z1 n l).1).2.1)), vI ((((Z1 n l).1).2.2.1)), vI ((((Z1 n l).1).2.2.2.1)), vI ((((Z1 n l).1).2.2.2.2.1)), vI ((((Z1 n l).1).2.2.2.2.2.1)), vI ((((Z1 n l).1).2.2.2.2.2.2.1)), vI ((((Z1 n l).1).2.2.2.2.2.2.2))]), (20, .box 28 [vI ((((Z0C n l).1).1)), vI ((((Z0C n l).1).2.1)), vI ((((Z0C n l).1).2.2.1)), vI ((((Z0C n l).1).2.2.2.1)), vI ((((Z0C n l).1).2.2.2.2.1)), vI ((((Z0C n l).1).2.2.2.2.2.1)), vI ((((Z0C n l).1).2.2.2.2.2.2.1)), vI ((((Z0C n l).1).2.2.2.2.2.2.2))]), (28, .box 28 [vI ((((Z1z n l).1).1)), vI ((((Z1z n l).1).2.1)), vI ((((Z1z n l).1).2.2.1)), vI ((((Z1z n l).1).2.2.2.1)), vI ((((Z1z n l).1).2.2.2.2.1)), vI ((((Z1z n l).1).2.2.2.2.2.1)), vI ((((Z1z n l).1).2.2.2.2.2.2.1)), vI ((((Z1z n l).1).2.2.2.2.2.2.2))]), (44, .box 28 [vI ((((Z1W n l).1).1)), vI ((((Z1W n l).1).2.1)), vI ((((Z1W n l).1).2.2.1)), vI ((((Z1W n l).1).2.2.2.1)), vI ((((Z1W n l).1).2.2.2.2.1)), vI ((((Z1W n l).1).2.2.2.2.2.1)), vI ((((Z1W n l).1).2.2.2.2.2.2.1)), vI ((((Z1W n l).1).2.2.2.2.2.2.2))]), (52, .box 28 [vI ((((Z2F n l).1).1)), vI ((((Z2F n l).1).2.1)), vI ((((Z2F n l).1).2.2.1)), vI ((((Z2F n l).1).2.2.2.1)), vI ((((Z2F n l).1).2.2.2.2.1)), vI ((((Z2F n l).1).2.2.2.2.2.1)), vI ((((Z2F n l).1).2.2.2.2.2.2.1)), vI ((((Z2F n l).1).2.2.2.2.2.2.2))]), (60, .box 28 [vI (Z0t), vI (Z0u), vI (Z0v), vI (Z0w), vI (Z0x), vI (Z0y), vI (Z0z), vI (Z0A)])]⟩
def Zxs (n : Nat) (l : List Int) (Z0t Z0u : Int) (Z0v Z0w : Int) (Z0x Z0y : Int) (Z0z Z0A : Int) (got : ByteArray) (begin i : Int) : Tab := ⟨[.row 0, jK, vB (false), .ptr 12 0, .val (.string ((Z1 n l).2)), .ptr 20 0, .val (.string ((Z0C n l).2)), .ptr 28 0, .val (.string ((Z1z n l).2)), .val (.string (Z9 n l)), .val (.string (ZiC n l)), .ptr 44 0, vB ((Z1W n l).2), .ptr 52 0, vB ((Z2F n l).2), .ptr 60 0, .val (.string got), vI (begin), vI (i), jK, jK, .row 0, vB (Zsn n l), jK, .row 0, jK, .val (.agg ⟨[.int .i64 (((Z1 n l).1).1), .int .i64 (((Z1 n l).1).2.1), .int .i64 (((Z1 n l).1).2.2.1), .int .i64 (((Z1 n l).1).2.2.2.1), .int .i64 (((Z1 n l).1).2.2.2.2.1), .int .i64 (((Z1 n l).1).2.2.2.2.2.1), .int .i64 (((Z1 n l).1).2.2.2.2.2.2.1), .int .i64 (((Z1 n l).1).2.2.2.2.2.2.2)]⟩), .val (.string ((Z1 n l).2)), jK, .val (.agg ⟨[.int .i64 (((Z1 n l).1).1), .int .i64 (((Z1 n l).1).2.1), .int .i64 (((Z1 n l).1).2.2.1), .int .i64 (((Z1 n l).1).2.2.2.1), .int .i64 (((Z1 n l).1).2.2.2.2.1), .int .i64 (((Z1 n l).1).2.2.2.2.2.1), .int .i64 (((Z1 n l).1).2.2.2.2.2.2.1), .int .i64 (((Z1 n l).1).2.2.2.2.2.2.2)]⟩), .val (.string ((Z1 n l).2)), jK, .val (.agg ⟨[.int .i64 (((Z0C n l).1).1), .int .i64 (((Z0C n l).1).2.1), .int .i64 (((Z0C n l).1).2.2.1), .int .i64 (((Z0C n l).1).2.2.2.1), .int .i64 (((Z0C n l).1).2.2.2.2.1), .int .i64 (((Z0C n l).1).2.2.2.2.2.1), .int .i64 (((Z0C n l).1).2.2.2.2.2.2.1), .int .i64 (((Z0C n l).1).2.2.2.2.2.2.2)]⟩), .val (.string ((Z0C n l).2)), jK, .val (.agg ⟨[.int .i64 (((Z1 n l).1).1), .int .i64 (((Z1 n l).1).2.1), .int .i64 (((Z1 n l).1).2.2.1), .int .i64 (((Z1 n l).1).2.2.2.1), .int .i64 (((Z1 n l).1).2.2.2.2.1), .int .i64 (((Z1 n l).1).2.2.2.2.2.1), .int .i64 (((Z1 n l).1).2.2.2.2.2.2.1), .int .i64 (((Z1 n l).1).2.2.2.2.2.2.2)]⟩), .val (.string ((Z1 n l).2)), jK, .val (.agg ⟨[.int .i64 (((Z1z n l).1).1), .int .i64 (((Z1z n l).1).2.1), .int .i64 (((Z1z n l).1).2.2.1), .int .i64 (((Z1z n l).1).2.2.2.1), .int .i64 (((Z1z n l).1).2.2.2.2.1), .int .i64 (((Z1z n l).1).2.2.2.2.2.1), .int .i64 (((Z1z n l).1).2.2.2.2.2.2.1), .int .i64 (((Z1z n l).1).2.2.2.2.2.2.2)]⟩), .val (.string ((Z1z n l).2)), .val (.string ((Z0C n l).2)), .val (.string ((Z1z n l).2)), vB ((!(eqS ((Z0C n l).2) ((Z1z n l).2)))), vB (false), .val (.agg ⟨[.int .i64 (((Z0C n l).1).1), .int .i64 (((Z0C n l).1).2.1), .int .i64 (((Z0C n l).1).2.2.1), .int .i64 (((Z0C n l).1).2.2.2.1), .int .i64 (((Z0C n l).1).2.2.2.2.1), .int .i64 (((Z0C n l).1).2.2.2.2.2.1), .int .i64 (((Z0C n l).1).2.2.2.2.2.2.1), .int .i64 (((Z0C n l).1).2.2.2.2.2.2.2)]⟩), .val (.agg ⟨[.int .i64 (((Z1z n l).1).1), .int .i64 (((Z1z n l).1).2.1), .int .i64 (((Z1z n l).1).2.2.1), .int .i64 (((Z1z n l).1).2.2.2.1), .int .i64 (((Z1z n l).1).2.2.2.2.1), .int .i64 (((Z1z n l).1).2.2.2.2.2.1), .int .i64 (((Z1z n l).1).2.2.2.2.2.2.1), .int .i64 (((Z1z n l).1).2.2.2.2.2.2.2)]⟩), vB (Zy4 n l), vB ((!(Zy4 n l))), vB ((!(Zy4 n l))), vB (false), .val (.agg ⟨[.int .i64 (((Z1 n l).1).1), .int .i64 (((Z1 n l).1).2.1), .int .i64 (((Z1 n l).1).2.2.1), .int .i64 (((Z1 n l).1).2.2.2.1), .int .i64 (((Z1 n l).1).2.2.2.2.1), .int .i64 (((Z1 n l).1).2.2.2.2.2.1), .int .i64 (((Z1 n l).1).2.2.2.2.2.2.1), .int .i64 (((Z1 n l).1).2.2.2.2.2.2.2)]⟩), vB (Zy5 n l), .val (.agg ⟨[.int .i64 (((Z1 n l).1).1), .int .i64 (((Z1 n l).1).2.1), .int .i64 (((Z1 n l).1).2.2.1), .int .i64 (((Z1 n l).1).2.2.2.1), .int .i64 (((Z1 n l).1).2.2.2.2.1), .int .i64 (((Z1 n l).1).2.2.2.2.2.1), .int .i64 (((Z1 n l).1).2.2.2.2.2.2.1), .int .i64 (((Z1 n l).1).2.2.2.2.2.2.2)]⟩), vB (Zof n l), vB ((!((Zy5 n l) == (Zof n l)))), vB ((!((Zy5 n l) == (Zof n l)))), vB (false), .val (.agg ⟨[.int .i64 Zg.1, .int .i64 Zg.2.1, .int .i64 Zg.2.2.1, .int .i64 Zg.2.2.2.1, .int .i64 Zg.2.2.2.2.1, .int .i64 Zg.2.2.2.2.2.1, .int .i64 Zg.2.2.2.2.2.2.1, .int .i64 Zg.2.2.2.2.2.2.2]⟩), vB ((Z0n Zg)), vB ((!(Z0n Zg))), vB ((!(Z0n Zg))), .val (.agg ⟨[.int .i64 (((Z1 n l).1).1), .int .i64 (((Z1 n l).1).2.1), .int .i64 (((Z1 n l).1).2.2.1), .int .i64 (((Z1 n l).1).2.2.2.1), .int .i64 (((Z1 n l).1).2.2.2.2.1), .int .i64 (((Z1 n l).1).2.2.2.2.2.1), .int .i64 (((Z1 n l).1).2.2.2.2.2.2.1), .int .i64 (((Z1 n l).1).2.2.2.2.2.2.2)]⟩), vB (Zof n l), vB (true), .val (.agg ⟨[.int .i64 (((Z0C n l).1).1), .int .i64 (((Z0C n l).1).2.1), .int .i64 (((Z0C n l).1).2.2.1), .int .i64 (((Z0C n l).1).2.2.2.1), .int .i64 (((Z0C n l).1).2.2.2.2.1), .int .i64 (((Z0C n l).1).2.2.2.2.2.1), .int .i64 (((Z0C n l).1).2.2.2.2.2.2.1), .int .i64 (((Z0C n l).1).2.2.2.2.2.2.2)]⟩), vB (ZKC n l), vB ((!(ZKC n l))), vB (false), .val (.string ((Z0C n l).2)), vB ((eqS ((Z0C n l).2) (bs [101, 114, 114, 111, 114]))), vB (false), .val (undef), .val (undef), .val (undef), .val (undef), vB (false), vB (false), vB (false), .row 0, .val (.string (Z9 n l)), .val (.string (Z9 n l)), .val (.string (ZiC n l)), jK, .val (.string (Z9 n l)), jK, .val (.agg ⟨[.int .i64 (((Z1W n l).1).1), .int .i64 (((Z1W n l).1).2.1), .int .i64 (((Z1W n l).1).2.2.1), .int .i64 (((Z1W n l).1).2.2.2.1), .int .i64 (((Z1W n l).1).2.2.2.2.1), .int .i64 (((Z1W n l).1).2.2.2.2.2.1), .int .i64 (((Z1W n l).1).2.2.2.2.2.2.1), .int .i64 (((Z1W n l).1).2.2.2.2.2.2.2)]⟩), vB ((Z1W n l).2), jK, .val (.string (Z9 n l)), jK, .val (.agg ⟨[.int .i64 (((Z2F n l).1).1), .int .i64 (((Z2F n l).1).2.1), .int .i64 (((Z2F n l).1).2.2.1), .int .i64 (((Z2F n l).1).2.2.2.1), .int .i64 (((Z2F n l).1).2.2.2.2.1), .int .i64 (((Z2F n l).1).2.2.2.2.2.1), .int .i64 (((Z2F n l).1).2.2.2.2.2.2.1), .int .i64 (((Z2F n l).1).2.2.2.2.2.2.2)]⟩), vB ((Z2F n l).2), .val (.string (ZiC n l)), .val (.string (Z9 n l)), .val (.string (ZmT n l)), vB ((!(eqS (ZiC n l) (ZmT n l)))), vB (false), vB ((Z1W n l).2), vB ((Z2F n l).2), vB ((!(((Z1W n l).2) == ((Z2F n l).2)))), vB ((!(((Z1W n l).2) == ((Z2F n l).2)))), vB ((Z1W n l).2), vB ((!((Z1W n l).2))), jK, jK, .val (.agg ⟨[.int .i64 Zg.1, .int .i64 Zg.2.1, .int .i64 Zg.2.2.1, .int .i64 Zg.2.2.2.1, .int .i64 Zg.2.2.2.2.1, .int .i64 Zg.2.2.2.2.2.1, .int .i64 Zg.2.2.2.2.2.2.1, .int .i64 Zg.2.2.2.2.2.2.2]⟩), ] ++ (jN 42 ++ [jK]), [(0, .ros n (.byts l)), (12, .box 28 [vI ((((Z1 n l).1).1)), vI ((((Z1 n l).1).2.1)), vI ((((Z1 n l).1).2.2.1)), vI ((((Z1 n l).1).2.2.2.1)), vI ((((Z1 n l).1).2.2.2.2.1)), vI ((((Z1 n l).1).2.2.2.2.2.1)), vI ((((Z1 n l).1).2.2.2.2.2.2.1)), vI ((((Z1 n l).1).2.2.2.2.2.2.2))]), (20, .box 28 [vI ((((Z0C n l).1).1)), vI ((((Z0C n l).1).2.1)), vI ((((Z0C n l).1).2.2.1)), vI ((((Z0C n l).1).2.2.2.1)), vI ((((Z0C n l).1).2.2.2.2.1)), vI ((((Z0C n l).1).2.2.2.2.2.1)), vI ((((Z0C n l).1).2.2.2.2.2.2.1)), vI ((((Z0C n l).1).2.2.2.2.2.2.2))]), (28, .box 28 [vI ((((Z1z n l).1).1)), vI ((((Z1z n l).1).2.1)), vI ((((Z1z n l).1).2.2.1)), vI ((((Z1z n l).1).2.2.2.1)), vI ((((Z1z n l).1).2.2.2.2.1)), vI ((((Z1z n l).1).2.2.2.2.2.1)), vI ((((Z1z n l).1).2.2.2.2.2.2.1)), vI ((((Z1z n l).1).2.2.2.2.2.2.2))]), (44, .box 28 [vI ((((Z1W n l).1).1)), vI ((((Z1W n l).1).2.1)), vI ((((Z1W n l).1).2.2.1)), vI ((((Z1W n l).1).2.2.2.1)), vI ((((Z1W n l).1).2.2.2.2.1)), vI ((((Z1W n l).1).2.2.2.2.2.1)), vI ((((Z1W n l).1).2.2.2.2.2.2.1)), vI ((((Z1W n l).1).2.2.2.2.2.2.2))]), (52, .box 28 [vI ((((Z2F n l).1).1)), vI ((((Z2F n l).1).2.1)), vI ((((Z2F n l).1).2.2.1)), vI ((((Z2F n l).1).2.2.2.1)), vI ((((Z2F n l).1).2.2.2.2.1)), vI ((((Z2F n l).1).2.2.2.2.2.1)), vI ((((Z2F n l).1).2.2.2.2.2.2.1)), vI ((((Z2F n l).1).2.2.2.2.2.2.2))]), (60, .box 28 [vI (Z0t), vI (Z0u), vI (Z0v), vI (Z0w), vI (Z0x), vI (Z0y), vI (Z0z), vI (Z0A)])]⟩
def Zxt (n : Nat) (l : List Int) (Z0t Z0u : Int) (Z0v Z0w : Int) (Z0x Z0y : Int) (Z0z Z0A : Int) (got : ByteArray) (begin i : Int) : Tab := ⟨[.row 0, jK, vB (false), .ptr 12 0, .val (.string ((Z1 n l).2)), .ptr 20 0, .val (.string ((Z0C n l).2)), .ptr 28 0, .val (.string ((Z1z n l).2)), .val (.string (Z9 n l)), .val (.string (ZiC n l)), .ptr 44 0, vB ((Z1W n l).2), .ptr 52 0, vB ((Z2F n l).2), .ptr 60 0, .val (.string got), vI (begin), vI (i), jK, jK, .row 0, vB (Zsn n l), jK, .row 0, jK, .val (.agg ⟨[.int .i64 (((Z1 n l).1).1), .int .i64 (((Z1 n l).1).2.1), .int .i64 (((Z1 n l).1).2.2.1), .int .i64 (((Z1 n l).1).2.2.2.1), .int .i64 (((Z1 n l).1).2.2.2.2.1), .int .i64 (((Z1 n l).1).2.2.2.2.2.1), .int .i64 (((Z1 n l).1).2.2.2.2.2.2.1), .int .i64 (((Z1 n l).1).2.2.2.2.2.2.2)]⟩), .val (.string ((Z1 n l).2)), jK, .val (.agg ⟨[.int .i64 (((Z1 n l).1).1), .int .i64 (((Z1 n l).1).2.1), .int .i64 (((Z1 n l).1).2.2.1), .int .i64 (((Z1 n l).1).2.2.2.1), .int .i64 (((Z1 n l).1).2.2.2.2.1), .int .i64 (((Z1 n l).1).2.2.2.2.2.1), .int .i64 (((Z1 n l).1).2.2.2.2.2.2.1), .int .i64 (((Z1 n l).1).2.2.2.2.2.2.2)]⟩), .val (.string ((Z1 n l).2)), jK, .val (.agg ⟨[.int .i64 (((Z0C n l).1).1), .int .i64 (((Z0C n l).1).2.1), .int .i64 (((Z0C n l).1).2.2.1), .int .i64 (((Z0C n l).1).2.2.2.1), .int .i64 (((Z0C n l).1).2.2.2.2.1), .int .i64 (((Z0C n l).1).2.2.2.2.2.1), .int .i64 (((Z0C n l).1).2.2.2.2.2.2.1), .int .i64 (((Z0C n l).1).2.2.2.2.2.2.2)]⟩), .val (.string ((Z0C n l).2)), jK, .val (.agg ⟨[.int .i64 (((Z1 n l).1).1), .int .i64 (((Z1 n l).1).2.1), .int .i64 (((Z1 n l).1).2.2.1), .int .i64 (((Z1 n l).1).2.2.2.1), .int .i64 (((Z1 n l).1).2.2.2.2.1), .int .i64 (((Z1 n l).1).2.2.2.2.2.1), .int .i64 (((Z1 n l).1).2.2.2.2.2.2.1), .int .i64 (((Z1 n l).1).2.2.2.2.2.2.2)]⟩), .val (.string ((Z1 n l).2)), jK, .val (.agg ⟨[.int .i64 (((Z1z n l).1).1), .int .i64 (((Z1z n l).1).2.1), .int .i64 (((Z1z n l).1).2.2.1), .int .i64 (((Z1z n l).1).2.2.2.1), .int .i64 (((Z1z n l).1).2.2.2.2.1), .int .i64 (((Z1z n l).1).2.2.2.2.2.1), .int .i64 (((Z1z n l).1).2.2.2.2.2.2.1), .int .i64 (((Z1z n l).1).2.2.2.2.2.2.2)]⟩), .val (.string ((Z1z n l).2)), .val (.string ((Z0C n l).2)), .val (.string ((Z1z n l).2)), vB ((!(eqS ((Z0C n l).2) ((Z1z n l).2)))), vB (false), .val (.agg ⟨[.int .i64 (((Z0C n l).1).1), .int .i64 (((Z0C n l).1).2.1), .int .i64 (((Z0C n l).1).2.2.1), .int .i64 (((Z0C n l).1).2.2.2.1), .int .i64 (((Z0C n l).1).2.2.2.2.1), .int .i64 (((Z0C n l).1).2.2.2.2.2.1), .int .i64 (((Z0C n l).1).2.2.2.2.2.2.1), .int .i64 (((Z0C n l).1).2.2.2.2.2.2.2)]⟩), .val (.agg ⟨[.int .i64 (((Z1z n l).1).1), .int .i64 (((Z1z n l).1).2.1), .int .i64 (((Z1z n l).1).2.2.1), .int .i64 (((Z1z n l).1).2.2.2.1), .int .i64 (((Z1z n l).1).2.2.2.2.1), .int .i64 (((Z1z n l).1).2.2.2.2.2.1), .int .i64 (((Z1z n l).1).2.2.2.2.2.2.1), .int .i64 (((Z1z n l).1).2.2.2.2.2.2.2)]⟩), vB (Zy4 n l), vB ((!(Zy4 n l))), vB ((!(Zy4 n l))), vB (false), .val (.agg ⟨[.int .i64 (((Z1 n l).1).1), .int .i64 (((Z1 n l).1).2.1), .int .i64 (((Z1 n l).1).2.2.1), .int .i64 (((Z1 n l).1).2.2.2.1), .int .i64 (((Z1 n l).1).2.2.2.2.1), .int .i64 (((Z1 n l).1).2.2.2.2.2.1), .int .i64 (((Z1 n l).1).2.2.2.2.2.2.1), .int .i64 (((Z1 n l).1).2.2.2.2.2.2.2)]⟩), vB (Zy5 n l), .val (.agg ⟨[.int .i64 (((Z1 n l).1).1), .int .i64 (((Z1 n l).1).2.1), .int .i64 (((Z1 n l).1).2.2.1), .int .i64 (((Z1 n l).1).2.2.2.1), .int .i64 (((Z1 n l).1).2.2.2.2.1), .int .i64 (((Z1 n l).1).2.2.2.2.2.1), .int .i64 (((Z1 n l).1).2.2.2.2.2.2.1), .int .i64 (((Z1 n l).1).2.2.2.2.2.2.2)]⟩), vB (Zof n l), vB ((!((Zy5 n l) == (Zof n l)))), vB ((!((Zy5 n l) == (Zof n l)))), vB (false), .val (.agg ⟨[.int .i64 Zg.1, .int .i64 Zg.2.1, .int .i64 Zg.2.2.1, .int .i64 Zg.2.2.2.1, .int .i64 Zg.2.2.2.2.1, .int .i64 Zg.2.2.2.2.2.1, .int .i64 Zg.2.2.2.2.2.2.1, .int .i64 Zg.2.2.2.2.2.2.2]⟩), vB ((Z0n Zg)), vB ((!(Z0n Zg))), vB ((!(Z0n Zg))), .val (.agg ⟨[.int .i64 (((Z1 n l).1).1), .int .i64 (((Z1 n l).1).2.1), .int .i64 (((Z1 n l).1).2.2.1), .int .i64 (((Z1 n l).1).2.2.2.1), .int .i64 (((Z1 n l).1).2.2.2.2.1), .int .i64 (((Z1 n l).1).2.2.2.2.2.1), .int .i64 (((Z1 n l).1).2.2.2.2.2.2.1), .int .i64 (((Z1 n l).1).2.2.2.2.2.2.2)]⟩), vB (Zof n l), vB (false), .val (undef), .val (undef), .val (undef), .val (undef), .val (undef), .val (undef), .val (undef), .val (undef), .val (undef), .val (undef), .val (undef), .val (undef), .val (undef), vB (false), .row 0, .val (.string (Z9 n l)), .val (.string (Z9 n l)), .val (.string (ZiC n l)), jK, .val (.string (Z9 n l)), jK, .val (.agg ⟨[.int .i64 (((Z1W n l).1).1), .int .i64 (((Z1W n l).1).2.1), .int .i64 (((Z1W n l).1).2.2.1), .int .i64 (((Z1W n l).1).2.2.2.1), .int .i64 (((Z1W n l).1).2.2.2.2.1), .int .i64 (((Z1W n l).1).2.2.2.2.2.1), .int .i64 (((Z1W n l).1).2.2.2.2.2.2.1), .int .i64 (((Z1W n l).1).2.2.2.2.2.2.2)]⟩), vB ((Z1W n l).2), jK, .val (.string (Z9 n l)), jK, .val (.agg ⟨[.int .i64 (((Z2F n l).1).1), .int .i64 (((Z2F n l).1).2.1), .int .i64 (((Z2F n l).1).2.2.1), .int .i64 (((Z2F n l).1).2.2.2.1), .int .i64 (((Z2F n l).1).2.2.2.2.1), .int .i64 (((Z2F n l).1).2.2.2.2.2.1), .int .i64 (((Z2F n l).1).2.2.2.2.2.2.1), .int .i64 (((Z2F n l).1).2.2.2.2.2.2.2)]⟩), vB ((Z2F n l).2), .val (.string (ZiC n l)), .val (.string (Z9 n l)), .val (.string (ZmT n l)), vB ((!(eqS (ZiC n l) (ZmT n l)))), vB (false), vB ((Z1W n l).2), vB ((Z2F n l).2), vB ((!(((Z1W n l).2) == ((Z2F n l).2)))), vB ((!(((Z1W n l).2) == ((Z2F n l).2)))), vB ((Z1W n l).2), vB ((!((Z1W n l).2))), jK, jK, .val (.agg ⟨[.int .i64 Zg.1, .int .i64 Zg.2.1, .int .i64 Zg.2.2.1, .int .i64 Zg.2.2.2.1, .int .i64 Zg.2.2.2.2.1, .int .i64 Zg.2.2.2.2.2.1, .int .i64 Zg.2.2.2.2.2.2.1, .int .i64 Zg.2.2.2.2.2.2.2]⟩), ] ++ (jN 42 ++ [jK]), [(0, .ros n (.byts l)), (12, .box 28 [vI ((((Z1 n l).1).1)), vI ((((Z1 n l).1).2.1)), vI ((((Z1 n l).1).2.2.1)), vI ((((Z1 n l).1).2.2.2.1)), vI ((((Z1 n l).1).2.2.2.2.1)), vI ((((Z1 n l).1).2.2.2.2.2.1)), vI ((((Z1 n l).1).2.2.2.2.2.2.1)), vI ((((Z1 n l).1).2.2.2.2.2.2.2))]), (20, .box 28 [vI ((((Z0C n l).1).1)), vI ((((Z0C n l).1).2.1)), vI ((((Z0C n l).1).2.2.1)), vI ((((Z0C n l).1).2.2.2.1)), vI ((((Z0C n l).1).2.2.2.2.1)), vI ((((Z0C n l).1).2.2.2.2.2.1)), vI ((((Z0C n l).1).2.2.2.2.2.2.1)), vI ((((Z0C n l).1).2.2.2.2.2.2.2))]), (28, .box 28 [vI ((((Z1z n l).1).1)), vI ((((Z1z n l).1).2.1)), vI ((((Z1z n l).1).2.2.1)), vI ((((Z1z n l).1).2.2.2.1)), vI ((((Z1z n l).1).2.2.2.2.1)), vI ((((Z1z n l).1).2.2.2.2.2.1)), vI ((((Z1z n l).1).2.2.2.2.2.2.1)), vI ((((Z1z n l).1).2.2.2.2.2.2.2))]), (44, .box 28 [vI ((((Z1W n l).1).1)), vI ((((Z1W n l).1).2.1)), vI ((((Z1W n l).1).2.2.1)), vI ((((Z1W n l).1).2.2.2.1)), vI ((((Z1W n l).1).2.2.2.2.1)), vI ((((Z1W n l).1).2.2.2.2.2.1)), vI ((((Z1W n l).1).2.2.2.2.2.2.1)), vI ((((Z1W n l).1).2.2.2.2.2.2.2))]), (52, .box 28 [vI ((((Z2F n l).1).1)), vI ((((Z2F n l).1).2.1)), vI ((((Z2F n l).1).2.2.1)), vI ((((Z2F n l).1).2.2.2.1)), vI ((((Z2F n l).1).2.2.2.2.1)), vI ((((Z2F n l).1).2.2.2.2.2.1)), vI ((((Z2F n l).1).2.2.2.2.2.2.1)), vI ((((Z2F n l).1).2.2.2.2.2.2.2))]), (60, .box 28 [vI (Z0t), vI (Z0u), vI (Z0v), vI (Z0w), vI (Z0x), vI (Z0y), vI (Z0z), vI (Z0A)])]⟩
def Z6s (P : Program) (fu Z3 : Nat) (Z4 : List Int) (f : Nat) (Z0t Z0u : Int) (Z0v Z0w : Int) (Z0x Z0y : Int) (Z0z Z0A : Int) (got : ByteArray) (begin i : Int) : Option (Bool) := Z1u (exec P Z4m 149 (fun _ => fu + 100) (Code.sub [1, 1, 1, 1, 1, 1, 1, 1, 1, 1, 1, 1, 1, 1, 1, 0, 1, 0, 0] (ZS P 5))) f (Zxr Z3 Z4 Z0t Z0u Z0v Z0w Z0x Z0y Z0z Z0A got begin i) (Z0g 0 (kSeq (fun zs9 => exec P Z4m 149 (fun _ => fu + 100) (Code.sub [1, 1, 1, 1, 1, 1, 1, 1, 1, 1, 1, 1, 1, 1, 1, 1] (ZS P 5)) zs9 (finT P 5 Z1M)) (finT P 5 Z1M)))
def Z2q (n : Nat) (l : List Int) (Z1F : Int -> Int -> Int -> Int -> Int -> Int -> Int -> Int -> ByteArray -> Int -> Int -> Option (Bool)) (Z0t Z0u : Int) (Z0v Z0w : Int) (Z0x Z0y : Int) (Z0z Z0A : Int) (got : ByteArray) (begin i : Int) : Option (Bool) :=
 (if (decide (i <= (((Z9 n l).size : Nat) : Int))) = true then (if (decide (i < (((Z9 n l).size : Nat) : Int))) = true then (if (decide (0 <= i) && decide (i < (((Z9 n l).size : Nat) : Int))) = true then (if ((((Z9 n l).data.getD i.toNat 0).toNat : Int) != 10) = true then Z1F Z0t Z0u Z0v Z0w Z0x Z0y Z0z Z0A got begin (wI (i + 1)) else (if (decide (i > begin)) = true then (if (decide (0 <= begin) && decide (begin <= i) && decide (i <= (((Z9 n l).size : Nat) : Int))) = true then (if (Z4q (Z0t, Z0u, Z0v, Z0w, Z0x, Z0y, Z0z, Z0A) ((Z9 n l).extract begin.toNat i.toNat)) = true then (if (Nat.ble (got.size + ((Z08 (Z0t, Z0u, Z0v, Z0w, Z0x, Z0y, Z0z, Z0A) ((Z9 n l).extract begin.toNat i.toNat)).2).size) 9223372036854775807) = true then (if (Nat.ble ((got ++ ((Z08 (Z0t, Z0u, Z0v, Z0w, Z0x, Z0y, Z0z, Z0A) ((Z9 n l).extract begin.toNat i.toNat)).2)).size + (bs [10]).size) 9223372036854775807) = true then Z1F (((Z08 (Z0t, Z0u, Z0v, Z0w, Z0x, Z0y, Z0z, Z0A) ((Z9 n l).extract begin.toNat i.toNat)).1).1) (((Z08 (Z0t, Z0u, Z0v, Z0w, Z0x, Z0y, Z0z, Z0A) ((Z9 n l).extract begin.toNat i.toNat)).1).2.1) (((Z08 (Z0t, Z0u, Z0v, Z0w, Z0x, Z0y, Z0z, Z0A) ((Z9 n l).extract begin.toNat i.toNat)).1).2.2.1) (((Z08 (Z0t, Z0u, Z0v, Z0w, Z0x, Z0y, Z0z, Z0A) ((Z9 n l).extract begin.toNat i.toNat)).1).2.2.2.1) (((Z08 (Z0t, Z0u, Z0v, Z0w, Z0x, Z0y, Z0z, Z0A) ((Z9 n l).extract begin.toNat i.toNat)).1).2.2.2.2.1) (((Z08 (Z0t, Z0u, Z0v, Z0w, Z0x, Z0y, Z0z, Z0A) ((Z9 n l).extract begin.toNat i.toNat)).1).2.2.2.2.2.1) (((Z08 (Z0t, Z0u, Z0v, Z0w, Z0x, Z0y, Z0z, Z0A) ((Z9 n l).extract begin.toNat i.toNat)).1).2.2.2.2.2.2.1) (((Z08 (Z0t, Z0u, Z0v, Z0w, Z0x, Z0y, Z0z, Z0A) ((Z9 n l).extract begin.toNat i.toNat)).1).2.2.2.2.2.2.2) ((got ++ ((Z08 (Z0t, Z0u, Z0v, Z0w, Z0x, Z0y, Z0z, Z0A) ((Z9 n l).extract begin.toNat i.toNat)).2)) ++ (bs [10])) (wI (i + 1)) (wI (i + 1)) else none) else none) else none) else none) else Z1F Z0t Z0u Z0v Z0w Z0x Z0y Z0z Z0A got (wI (i + 1)) (wI (i + 1)))) else none) else (if (decide (i > begin)) = true then (if (decide (0 <= begin) && decide (begin <= i) && decide (i <= (((Z9 n l).size : Nat) : Int))) = true then (if (Z4q (Z0t, Z0u, Z0v, Z0w, Z0x, Z0y, Z0z, Z0A) ((Z9 n l).extract begin.toNat i.toNat)) = true then (if (Nat.ble (got.size + ((Z08 (Z0t, Z0u, Z0v, Z0w, Z0x, Z0y, Z0z, Z0A) ((Z9 n l).extract begin.toNat i.toNat)).2).size) 9223372036854775807) = true then (if (Nat.ble ((got ++ ((Z08 (Z0t, Z0u, Z0v, Z0w, Z0x, Z0y, Z0z, Z0A) ((Z9 n l).extract begin.toNat i.toNat)).2)).size + (bs [10]).size) 9223372036854775807) = true then Z1F (((Z08 (Z0t, Z0u, Z0v, Z0w, Z0x, Z0y, Z0z, Z0A) ((Z9 n l).extract begin.toNat i.toNat)).1).1) (((Z08 (Z0t, Z0u, Z0v, Z0w, Z0x, Z0y, Z0z, Z0A) ((Z9 n l).extract begin.toNat i.toNat)).1).2.1) (((Z08 (Z0t, Z0u, Z0v, Z0w, Z0x, Z0y, Z0z, Z0A) ((Z9 n l).extract begin.toNat i.toNat)).1).2.2.1) (((Z08 (Z0t, Z0u, Z0v, Z0w, Z0x, Z0y, Z0z, Z0A) ((Z9 n l).extract begin.toNat i.toNat)).1).2.2.2.1) (((Z08 (Z0t, Z0u, Z0v, Z0w, Z0x, Z0y, Z0z, Z0A) ((Z9 n l).extract begin.toNat i.toNat)).1).2.2.2.2.1) (((Z08 (Z0t, Z0u, Z0v, Z0w, Z0x, Z0y, Z0z, Z0A) ((Z9 n l).extract begin.toNat i.toNat)).1).2.2.2.2.2.1) (((Z08 (Z0t, Z0u, Z0v, Z0w, Z0x, Z0y, Z0z, Z0A) ((Z9 n l).extract begin.toNat i.toNat)).1).2.2.2.2.2.2.1) (((Z08 (Z0t, Z0u, Z0v, Z0w, Z0x, Z0y, Z0z, Z0A) ((Z9 n l).extract begin.toNat i.toNat)).1).2.2.2.2.2.2.2) ((got ++ ((Z08 (Z0t, Z0u, Z0v, Z0w, Z0x, Z0y, Z0z, Z0A) ((Z9 n l).extract begin.toNat i.toNat)).2)) ++ (bs [10])) (wI (i + 1)) (wI (i + 1)) else none) else none) else none) else none) else Z1F Z0t Z0u Z0v Z0w Z0x Z0y Z0z Z0A got (wI (i + 1)) (wI (i + 1)))) else (if (eqS got (ZiC n l)) = true then some (ZfM (Z0t, Z0u, Z0v, Z0w, Z0x, Z0y, Z0z, Z0A) ((Z1W n l).1)) else some false))
def Z1s (fu Z3 : Nat) (Z4 : List Int) : Nat -> Int -> Int -> Int -> Int -> Int -> Int -> Int -> Int -> ByteArray -> Int -> Int -> Option (Bool)
 | 0, _, _, _, _, _, _, _, _, _, _, _ => none
 | f + 1, Z0t, Z0u, Z0v, Z0w, Z0x, Z0y, Z0z, Z0A, got, begin, i => Z2q Z3 Z4 (Z1s fu Z3 Z4 f) Z0t Z0u Z0v Z0w Z0x Z0y Z0z Z0A got begin i
theorem Zql (fu Z3 : Nat) (Z4 : List Int) : ∀ (f : Nat) (Z0t Z0u : Int) (Z0v Z0w : Int) (Z0x Z0y : Int) (Z0z Z0A : Int) (got : ByteArray) (begin i : Int), Z6s prog fu Z3 Z4 f Z0t Z0u Z0v Z0w Z0x Z0y Z0z Z0A got begin i = Z1s fu Z3 Z4 f Z0t Z0u Z0v Z0w Z0x Z0y Z0z Z0A got begin i := by
 intro f
 induction f with
 | zero => intros; rfl
 | succ f ih =>
  intro Z0t Z0u Z0v Z0w Z0x Z0y Z0z Z0A got begin i
  have h1 : Z6s prog fu Z3 Z4 (f + 1) Z0t Z0u Z0v Z0w Z0x Z0y Z0z Z0A got begin i = Z2q Z3 Z4 (Z6s prog fu Z3 Z4 f) Z0t Z0u Z0v Z0w Z0x Z0y Z0z Z0A got begin i := by kernel_rfl
  have h2 : Z6s prog fu Z3 Z4 f = Z1s fu Z3 Z4 f := by funext Z0t Z0u Z0v Z0w Z0x Z0y Z0z Z0A got begin i; exact ih Z0t Z0u Z0v Z0w Z0x Z0y Z0z Z0A got begin i
  rw [h1, h2]
  rfl
def Z6t (P : Program) (fu Z3 : Nat) (Z4 : List Int) (f : Nat) (Z0t Z0u : Int) (Z0v Z0w : Int) (Z0x Z0y : Int) (Z0z Z0A : Int) (got : ByteArray) (begin i : Int) : Option (Bool) := Z1u (exec P Z4m 149 (fun _ => fu + 100) (Code.sub [1, 1, 1, 1, 1, 1, 1, 1, 1, 1, 1, 1, 1, 1, 1, 0, 1, 0, 0] (ZS P 5))) f (Zxs Z3 Z4 Z0t Z0u Z0v Z0w Z0x Z0y Z0z Z0A got begin i) (Z0g 0 (kSeq (fun zs9 => exec P Z4m 149 (fun _ => fu + 100) (Code.sub [1, 1, 1, 1, 1, 1, 1, 1, 1, 1, 1, 1, 1, 1, 1, 1] (ZS P 5)) zs9 (finT P 5 Z1M)) (finT P 5 Z1M)))
def ZkS (n : Nat) (l : List Int) (ZDN : Int -> Int -> Int -> Int -> Int -> Int -> Int -> Int -> ByteArray -> Int -> Int -> Option (Bool)) (Z0t Z0u : Int) (Z0v Z0w : Int) (Z0x Z0y : Int) (Z0z Z0A : Int) (got : ByteArray) (begin i : Int) : Option (Bool) :=
 Z2q n l ZDN Z0t Z0u Z0v Z0w Z0x Z0y Z0z Z0A got begin i
def Z4T (fu Z3 : Nat) (Z4 : List Int) : Nat -> Int -> Int -> Int -> Int -> Int -> Int -> Int -> Int -> ByteArray -> Int -> Int -> Option (Bool)
 | 0, _, _, _, _, _, _, _, _, _, _, _ => none
 | f + 1, Z0t, Z0u, Z0v, Z0w, Z0x, Z0y, Z0z, Z0A, got, begin, i => ZkS Z3 Z4 (Z4T fu Z3 Z4 f) Z0t Z0u Z0v Z0w Z0x Z0y Z0z Z0A got begin i
theorem Zqm (fu Z3 : Nat) (Z4 : List Int) : ∀ (f : Nat) (Z0t Z0u : Int) (Z0v Z0w : Int) (Z0x Z0y : Int) (Z0z Z0A : Int) (got : ByteArray) (begin i : Int), Z6t prog fu Z3 Z4 f Z0t Z0u Z0v Z0w Z0x Z0y Z0z Z0A got begin i = Z4T fu Z3 Z4 f Z0t Z0u Z0v Z0w Z0x Z0y Z0z Z0A got begin i := by
 intro f
 induction f with
 | zero => intros; rfl
 | succ f ih =>
  intro Z0t Z0u Z0v Z0w Z0x Z0y Z0z Z0A got begin i
  have h1 : Z6t prog fu Z3 Z4 (f + 1) Z0t Z0u Z0v Z0w Z0x Z0y Z0z Z0A got begin i = ZkS Z3 Z4 (Z6t prog fu Z3 Z4 f) Z0t Z0u Z0v Z0w Z0x Z0y Z0z Z0A got begin i := by kernel_rfl
  have h2 : Z6t prog fu Z3 Z4 f = Z4T fu Z3 Z4 f := by funext Z0t Z0u Z0v Z0w Z0x Z0y Z0z Z0A got begin i; exact ih Z0t Z0u Z0v Z0w Z0x Z0y Z0z Z0A got begin i
  rw [h1, h2]
  rfl
def Z6u (P : Program) (fu Z3 : Nat) (Z4 : List Int) (f : Nat) (Z0t Z0u : Int) (Z0v Z0w : Int) (Z0x Z0y : Int) (Z0z Z0A : Int) (got : ByteArray) (begin i : Int) : Option (Bool) := Z1u (exec P Z4m 149 (fun _ => fu + 100) (Code.sub [1, 1, 1, 1, 1, 1, 1, 1, 1, 1, 1, 1, 1, 1, 1, 0, 1, 0, 0] (ZS P 5))) f (Zxt Z3 Z4 Z0t Z0u Z0v Z0w Z0x Z0y Z0z Z0A got begin i) (Z0g 0 (kSeq (fun zs9 => exec P Z4m 149 (fun _ => fu + 100) (Code.sub [1, 1, 1, 1, 1, 1, 1, 1, 1, 1, 1, 1, 1, 1, 1, 1] (ZS P 5)) zs9 (finT P 5 Z1M)) (finT P 5 Z1M)))
def ZkT (n : Nat) (l : List Int) (Z2b : Int -> Int -> Int -> Int -> Int -> Int -> Int -> Int -> ByteArray -> Int -> Int -> Option (Bool)) (Z0t Z0u : Int) (Z0v Z0w : Int) (Z0x Z0y : Int) (Z0z Z0A : Int) (got : ByteArray) (begin i : Int) : Option (Bool) :=
 Z2q n l Z2b Z0t Z0u Z0v Z0w Z0x Z0y Z0z Z0A got begin i
def Z4U (fu Z3 : Nat) (Z4 : List Int) : Nat -> Int -> Int -> Int -> Int -> Int -> Int -> Int -> Int -> ByteArray -> Int -> Int -> Option (Bool)
 | 0, _, _, _, _, _, _, _, _, _, _, _ => none
 | f + 1, Z0t, Z0u, Z0v, Z0w, Z0x, Z0y, Z0z, Z0A, got, begin, i => ZkT Z3 Z4 (Z4U fu Z3 Z4 f) Z0t Z0u Z0v Z0w Z0x Z0y Z0z Z0A got begin i
theorem Zqn (fu Z3 : Nat) (Z4 : List Int) : ∀ (f : Nat) (Z0t Z0u : Int) (Z0v Z0w : Int) (Z0x Z0y : Int) (Z0z Z0A : Int) (got : ByteArray) (begin i : Int), Z6u prog fu Z3 Z4 f Z0t Z0u Z0v Z0w Z0x Z0y Z0z Z0A got begin i = Z4U fu Z3 Z4 f Z0t Z0u Z0v Z0w Z0x Z0y Z0z Z0A got begin i := by
 intro f
 induction f with
 | zero => intros; rfl
 | succ f ih =>
  intro Z0t Z0u Z0v Z0w Z0x Z0y Z0z Z0A got begin i
  have h1 : Z6u prog fu Z3 Z4 (f + 1) Z0t Z0u Z0v Z0w Z0x Z0y Z0z Z0A got begin i = ZkT Z3 Z4 (Z6u prog fu Z3 Z4 f) Z0t Z0u Z0v Z0w Z0x Z0y Z0z Z0A got begin i := by kernel_rfl
  have h2 : Z6u prog fu Z3 Z4 f = Z4U fu Z3 Z4 f := by funext Z0t Z0u Z0v Z0w Z0x Z0y Z0z Z0A got begin i; exact ih Z0t Z0u Z0v Z0w Z0x Z0y Z0z Z0A got begin i
  rw [h1, h2]
  rfl
theorem Zhi : Z4T = Z1s := by kernel_rfl
theorem Zhj : Z4U = Z1s := by kernel_rfl
def Zis (Z3 : Nat) (Z4 : List Int) (lo0 : Int -> Int -> Int -> Int -> Int -> Int -> Int -> Int -> ByteArray -> Int -> Int -> Option (Bool)) (lo1 : Int -> Int -> Int -> Int -> Int -> Int -> Int -> Int -> ByteArray -> Int -> Int -> Option (Bool)) (lo2 : Int -> Int -> Int -> Int -> Int -> Int -> Int -> Int -> ByteArray -> Int -> Int -> Option (Bool)) : Option (Bool) :=
 (if (Zsn Z3 Z4) = true then some true else (if (Z56 Z3 Z4) = true then (if (Z4q ((Z1 Z3 Z4).1) ((Z1 Z3 Z4).2)) = true then (if (Z3w ((Z1 Z3 Z4).1) ((Z1 Z3 Z4).2)) = true then (if (!(eqS ((Z0C Z3 Z4).2) ((Z1z Z3 Z4).2))) = true then some false else (if (!(Zy4 Z3 Z4)) = true then some false else (if (!((Zy5 Z3 Z4) == (Zof Z3 Z4))) = true then some false else (if (!(Z0n Zg)) = true then some false else (if (Zof Z3 Z4) = true then (if (!(ZKC Z3 Z4)) = true then some false else (if (eqS ((Z0C Z3 Z4).2) (bs [101, 114, 114, 111, 114])) = true then (if (!(ZIX Z3 Z4)) = true then some false else (if (Z56 Z3 Z4) = true then (if (Z5d (Z9 Z3 Z4)) = true then (if (Z3u (Z9 Z3 Z4)) = true then (if (Z3v (Z9 Z3 Z4)) = true then (if (Z5e (Z9 Z3 Z4)) = true then (if (!(eqS (ZiC Z3 Z4) (ZmT Z3 Z4))) = true then some false else (if (!(((Z1W Z3 Z4).2) == ((Z2F Z3 Z4).2))) = true then some false else (if (!((Z1W Z3 Z4).2)) = true then some (eqS (ZiC Z3 Z4) (bs [])) else lo0 Zg.1 Zg.2.1 Zg.2.2.1 Zg.2.2.2.1 Zg.2.2.2.2.1 Zg.2.2.2.2.2.1 Zg.2.2.2.2.2.2.1 Zg.2.2.2.2.2.2.2 (bs []) 0 0))) else none) else none) else none) else none) else none)) else (if (Z56 Z3 Z4) = true then (if (Z5d (Z9 Z3 Z4)) = true then (if (Z3u (Z9 Z3 Z4)) = true then (if (Z3v (Z9 Z3 Z4)) = true then (if (Z5e (Z9 Z3 Z4)) = true then (if (!(eqS (ZiC Z3 Z4) (ZmT Z3 Z4))) = true then some false else (if (!(((Z1W Z3 Z4).2) == ((Z2F Z3 Z4).2))) = true then some false else (if (!((Z1W Z3 Z4).2)) = true then some (eqS (ZiC Z3 Z4) (bs [])) else lo1 Zg.1 Zg.2.1 Zg.2.2.1 Zg.2.2.2.1 Zg.2.2.2.2.1 Zg.2.2.2.2.2.1 Zg.2.2.2.2.2.2.1 Zg.2.2.2.2.2.2.2 (bs []) 0 0))) else none) else none) else none) else none) else none))) else (if (Z56 Z3 Z4) = true then (if (Z5d (Z9 Z3 Z4)) = true then (if (Z3u (Z9 Z3 Z4)) = true then (if (Z3v (Z9 Z3 Z4)) = true then (if (Z5e (Z9 Z3 Z4)) = true then (if (!(eqS (ZiC Z3 Z4) (ZmT Z3 Z4))) = true then some false else (if (!(((Z1W Z3 Z4).2) == ((Z2F Z3 Z4).2))) = true then some false else (if (!((Z1W Z3 Z4).2)) = true then some (eqS (ZiC Z3 Z4) (bs [])) else lo2 Zg.1 Zg.2.1 Zg.2.2.1 Zg.2.2.2.1 Zg.2.2.2.2.1 Zg.2.2.2.2.2.1 Zg.2.2.2.2.2.2.1 Zg.2.2.2.2.2.2.2 (bs []) 0 0))) else none) else none) else none) else none) else none)))))) else none) else none) else none))
def ZbQ (fu Z3 : Nat) (Z4 : List Int) : Option (Bool) := Zis Z3 Z4 (Z1s fu Z3 Z4 (fu + 100)) (Z4T fu Z3 Z4 (fu + 100)) (Z4U fu Z3 Z4 (fu + 100))
theorem ZAE (fu Z3 : Nat) (Z4 : List Int) : eF fu Z4m 5 149 Z1M [.s Z3 (.byts Z4)] = ZbQ fu Z3 Z4 := by
 have h1 : eF fu Z4m 5 149 Z1M [.s Z3 (.byts Z4)] = Zis Z3 Z4 (Z6s prog fu Z3 Z4 (fu + 100)) (Z6t prog fu Z3 Z4 (fu + 100)) (Z6u prog fu Z3 Z4 (fu + 100)) := by kernel_rfl
 have c0 : Z6s prog fu Z3 Z4 (fu + 100) = Z1s fu Z3 Z4 (fu + 100) := by funext Z0t Z0u Z0v Z0w Z0x Z0y Z0z Z0A got begin i; exact Zql fu Z3 Z4 (fu + 100) Z0t Z0u Z0v Z0w Z0x Z0y Z0z Z0A got begin i
 have c1 : Z6t prog fu Z3 Z4 (fu + 100) = Z4T fu Z3 Z4 (fu + 100) := by funext Z0t Z0u Z0v Z0w Z0x Z0y Z0z Z0A got begin i; exact Zqm fu Z3 Z4 (fu + 100) Z0t Z0u Z0v Z0w Z0x Z0y Z0z Z0A got begin i
 have c2 : Z6u prog fu Z3 Z4 (fu + 100) = Z4U fu Z3 Z4 (fu + 100) := by funext Z0t Z0u Z0v Z0w Z0x Z0y Z0z Z0A got begin i; exact Zqn fu Z3 Z4 (fu + 100) Z0t Z0u Z0v Z0w Z0x Z0y Z0z Z0A got begin i
 rw [h1, c0, c1, c2]
 rfl
theorem ZpP (d : Dk) : ZfM d d = true := by
 unfold ZfM
 exact beq_self_eq_true d
theorem ZQl {n : Nat} {l : List Int} (hz : (Z9 n l).size <= 6000) : ∀ (Q C A : List UInt8) (F : Nat) (v0 v1 v2 v3 v4 v5 v6 v7 : Int) (got : ByteArray), toL (Z9 n l) = A ++ C ++ Q -> (10 : UInt8) ∉ C -> got.size + Q.length * 100000002 <= 1000000000000 -> Q.length < F ->
  (runs (v0, v1, v2, v3, v4, v5, v6, v7) got (spL 10 (C ++ Q))).2 = Z8D (Z9 n l) -> (runs (v0, v1, v2, v3, v4, v5, v6, v7) got (spL 10 (C ++ Q))).1 = (Z5q (Z9 n l)).1 ->
  Z1s 1000000 n l (F + 1) v0 v1 v2 v3 v4 v5 v6 v7 got (A.length : Int) ((A.length + C.length : Nat) : Int) = some true := by
 have b10 : (bs [10]).size = 1 := rfl
 have last : ∀ (f : Nat) (v0 v1 v2 v3 v4 v5 v6 v7 : Int) (got : ByteArray) (b i : Int), ((Z9 n l).size : Int) < i -> got = Z8D (Z9 n l) -> (v0, v1, v2, v3, v4, v5, v6, v7) = (Z5q (Z9 n l)).1 -> Z1s 1000000 n l (f + 1) v0 v1 v2 v3 v4 v5 v6 v7 got b i = some true := by
  intro f v0 v1 v2 v3 v4 v5 v6 v7 got b i hi hg hd
  show Z2q n l (Z1s 1000000 n l f) v0 v1 v2 v3 v4 v5 v6 v7 got b i = some true
  unfold Z2q
  dsimp only [Z0C, Z1z, Zy4, Zy5, Zof, ZKC, ZIX, ZiC, Z1W, Z2F, ZmT]
  rw [if_neg (by simpa using hi), if_pos (by rw [hg]; exact Z0T.2 rfl), <- hd, ZpP]
 intro Q
 induction Q with
 | nil =>
  intro C A F v0 v1 v2 v3 v4 v5 v6 v7 got e hC hs hF h1 h2
  have hsz : (Z9 n l).size = A.length + C.length := by rw [ZX, e]; simp
  rw [List.append_nil, ZBO hC] at h1 h2
  obtain ⟨F, rfl⟩ : ∃ G, F = G + 1 := ⟨F - 1, by simp at hF; omega⟩
  have hw : wI (((A.length + C.length : Nat) : Int) + 1) = ((A.length + C.length + 1 : Nat) : Int) := by rw [Zz]; unfold wrap64; omega
  show Z2q n l (Z1s 1000000 n l (F + 1)) v0 v1 v2 v3 v4 v5 v6 v7 got (A.length : Int) ((A.length + C.length : Nat) : Int) = some true
  unfold Z2q
  rw [if_pos (by rw [hsz]; first | (simp; done) | (simp; omega)), if_neg (by rw [hsz]; first | (simp; done) | (simp; omega)), hw]
  by_cases h0 : C = []
  ·subst h0
   rw [if_neg (by first | (simp; done) | (simp; omega))]
   rw [ZbJ] at h1 h2
   exact last F _ _ _ _ _ _ _ _ _ _ _ (by rw [hsz]; omega) h1 h2
  ·have hcl : 0 < C.length := List.length_pos_iff.2 h0
   have hx : (bs C).size <= 1048576 := by rw [ZX, ZcQ]; omega
   obtain ⟨k1, k2, k3, k4⟩ := Zex (v0, v1, v2, v3, v4, v5, v6, v7) (bs C) hx
   simp only [Int.toNat_natCast]
   rw [ZhI e]
   rw [if_pos (by first | (simp; done) | (simp; omega)), if_pos (by rw [hsz]; first | (simp; done) | (simp; omega)), if_pos k2, k3, if_pos (Zkd (by simp at hs; omega) k4), if_pos (Nat.ble_eq_true_of_le (by simp at hs; rw [Z1a, b10]; omega))]
   rw [ZdQ _ _ _ h0] at h1 h2
   exact last F _ _ _ _ _ _ _ _ _ _ _ (by rw [hsz]; omega) h1 h2
 | cons b Q ih =>
  intro C A F v0 v1 v2 v3 v4 v5 v6 v7 got e hC hs hF h1 h2
  have hsz : (Z9 n l).size = A.length + C.length + (Q.length + 1) := by rw [ZX, e]; simp; omega
  have hs' : got.size + Q.length * 100000002 + 100000002 <= 1000000000000 := by
   have : (b :: Q).length * 100000002 = Q.length * 100000002 + 100000002 := by rw [List.length_cons, Nat.add_mul, Nat.one_mul]
   omega
  clear hs
  have hb : (Z9 n l).data.getD (A.length + C.length) 0 = b := by
   have := Zgz (s := Z9 n l) (D := A ++ C) (Q := Q) (c := b) e
   rw [List.length_append] at this
   exact this
  obtain ⟨F, rfl⟩ : ∃ G, F = G + 1 := ⟨F - 1, by simp at hF; omega⟩
  have hw : wI (((A.length + C.length : Nat) : Int) + 1) = ((A.length + C.length + 1 : Nat) : Int) := by rw [Zz]; unfold wrap64; omega
  show Z2q n l (Z1s 1000000 n l (F + 1)) v0 v1 v2 v3 v4 v5 v6 v7 got (A.length : Int) ((A.length + C.length : Nat) : Int) = some true
  unfold Z2q
  simp only [Int.toNat_natCast]
  rw [if_pos (by rw [hsz]; first | (simp; done) | (simp; omega)), if_pos (by rw [hsz]; first | (simp; done) | (simp; omega)), if_pos (by rw [hsz]; first | (simp; done) | (simp; omega)), hb, hw]
  by_cases hc : b = 10
  ·subst hc
   rw [if_neg (by decide)]
   rw [Zzc Q hC] at h1 h2
   have e' : toL (Z9 n l) = (A ++ C ++ [10]) ++ [] ++ Q := by rw [e]; simp
   have el : (A ++ C ++ [10]).length = A.length + C.length + 1 := by simp; omega
   by_cases h0 : C = []
   ·subst h0
    rw [if_neg (by first | (simp; done) | (simp; omega))]
    rw [ZbJ] at h1 h2
    have := ih [] (A ++ [] ++ [10]) F v0 v1 v2 v3 v4 v5 v6 v7 got e' (by simp) (by omega) (by simpa using hF) h1 h2
    rw [el] at this
    exact this
   ·have hcl : 0 < C.length := List.length_pos_iff.2 h0
    have hx : (bs C).size <= 1048576 := by rw [ZX, ZcQ]; omega
    obtain ⟨k1, k2, k3, k4⟩ := Zex (v0, v1, v2, v3, v4, v5, v6, v7) (bs C) hx
    rw [ZhI (Q := 10 :: Q) e]
    rw [if_pos (by first | (simp; done) | (simp; omega)), if_pos (by rw [hsz]; first | (simp; done) | (simp; omega)), if_pos k2, k3, if_pos (Zkd (by omega) k4), if_pos (Nat.ble_eq_true_of_le (by rw [Z1a, b10]; omega))]
    rw [ZdQ _ _ _ h0] at h1 h2
    have := ih [] (A ++ C ++ [10]) F _ _ _ _ _ _ _ _ (got ++ (Zs (v0, v1, v2, v3, v4, v5, v6, v7) (bs C)).2 ++ bs [10]) e' (by simp) (by rw [Z1a, Z1a, b10]; omega) (by simpa using hF) h1 h2
    rw [el] at this
    exact this
  ·rw [if_pos (by
    have hb2 : (b.toNat : Int) ≠ 10 := fun q => hc (UInt8.toNat_inj.1 (show b.toNat = (10 : UInt8).toNat by have : (10 : UInt8).toNat = 10 := rfl; omega))
    simpa using hb2)]
   have := ih (C ++ [b]) A F v0 v1 v2 v3 v4 v5 v6 v7 got (by rw [e]; simp) (by simp [hC]; exact fun q => hc q.symm) (by omega) (by simpa using hF) (by rw [List.append_assoc]; exact h1) (by rw [List.append_assoc]; exact h2)
   rw [List.length_append, List.length_singleton, <- Nat.add_assoc] at this
   exact this
theorem ZCv (Z3 : Nat) (Z4 : List Int) (hp : bytB Z3 Z4 = true) : ZbQ 1000000 Z3 Z4 = some true := by
 unfold ZbQ Zis
 refine ZOX (fun _ => rfl) (fun hb => ?_)
 have hc := ZNL hp hb
 have hl := ZqC Z3 Z4 hc
 have ht := ZqB Z3 Z4 hc
 dsimp only at hl ht
 obtain ⟨k1, k2, k3, _⟩ := Zex (Z1 Z3 Z4).1 (Z1 Z3 Z4).2 (Nat.le_trans hl (by decide))
 obtain ⟨r, e1, e2, e3, e4⟩ := ZNo (Z9 Z3 Z4) (Nat.le_trans ht (by decide))
 have c1 : Z6M (Z9 Z3 Z4) = some r.2.1 := by
  unfold Z6M
  rw [if_pos (Zn3 e1), ZwP e1]
 have c2 : Z6K (Z9 Z3 Z4) = some r.2.1 := by
  unfold Z6K
  rw [if_pos (Zlk e2), Zsh e2]
 have c3 : Z4y (Z9 Z3 Z4) = some (r.1, r.2.2) := by
  unfold Z4y
  rw [if_pos (Zn3 e1), ZwP e1]
 have c4 : Z4u (Z9 Z3 Z4) = some (r.1, r.2.2) := by
  unfold Z4u
  rw [if_pos (Zlk e2), Zsh e2]
 have v1 := ZHc c1
 have v2 := ZGN c2
 have v3 := ZBD c3
 have v4 := ZB1 c4
 have o1 := Zyf c1
 have o2 := Zyc c2
 have o3 := ZsD c3
 have o4 := Zsz c4
 have E1 : (!(eqS (Z08 (Z1 Z3 Z4).1 (Z1 Z3 Z4).2).2 (Zs (Z1 Z3 Z4).1 (Z1 Z3 Z4).2).2)) = false := by rw [k3, Z0T.2 rfl]; rfl
 have E2 : (!(ZfM (Z08 (Z1 Z3 Z4).1 (Z1 Z3 Z4).2).1 (Zs (Z1 Z3 Z4).1 (Z1 Z3 Z4).2).1)) = false := by rw [k3, ZpP]; rfl
 have E3 : (!(Z0n (Z1 Z3 Z4).1 == Z9C (Z1 Z3 Z4).1)) = false := by rw [Zja, beq_self_eq_true]; rfl
 have E4 : (!(Z0n Zg)) = false := by decide
 have tailL : ∀ (L : Nat -> Int -> Int -> Int -> Int -> Int -> Int -> Int -> Int -> ByteArray -> Int -> Int -> Option Bool), L = Z1s 1000000 Z3 Z4 -> (if Z56 Z3 Z4 = true then (if Z5d (Z9 Z3 Z4) = true then (if Z3u (Z9 Z3 Z4) = true then (if Z3v (Z9 Z3 Z4) = true then (if Z5e (Z9 Z3 Z4) = true then (if (!(eqS (Z8D (Z9 Z3 Z4)) (ZdR (Z9 Z3 Z4)))) = true then some false else (if (!((Z5q (Z9 Z3 Z4)).2 == (Z9B (Z9 Z3 Z4)).2)) = true then some false else (if (!((Z5q (Z9 Z3 Z4)).2)) = true then some (eqS (Z8D (Z9 Z3 Z4)) (bs [])) else L (1000000 + 100) Zg.1 Zg.2.1 Zg.2.2.1 Zg.2.2.2.1 Zg.2.2.2.2.1 Zg.2.2.2.2.2.1 Zg.2.2.2.2.2.2.1 Zg.2.2.2.2.2.2.2 (bs []) 0 0))) else none) else none) else none) else none) else none) = some true := by
  rintro L rfl
  rw [if_pos hc, if_pos o2, if_pos o4, if_pos o3, if_pos o1]
  rw [if_neg (by rw [v1, v2, Z0T.2 rfl]; decide), if_neg (by rw [v3, v4, beq_self_eq_true]; decide)]
  cases h : r.2.2 with
  | false => rw [if_pos (by rw [v4, h]; rfl), v2, e4 h]; exact congrArg some (Z0T.2 rfl)
  | true =>
   rw [if_neg (by rw [v4, h]; decide)]
   have hr := e3 h
   exact ZQl ht (toL (Z9 Z3 Z4)) [] [] (1000000 + 99) 7 0 0 0 1 0 0 1 (bs []) rfl (by simp) (by rw [<- ZX]; have : (bs []).size = 0 := rfl; omega) (by rw [<- ZX]; omega) (by rw [v2]; exact (congrArg Prod.snd hr).symm) (by rw [v4]; exact (congrArg Prod.fst hr).symm)
 have T0 := tailL _ rfl
 have T1 := tailL (Z4T 1000000 Z3 Z4) (by (first | rw [Zhi] | rw [Zhj]))
 have T2 := tailL (Z4U 1000000 Z3 Z4) (by (first | rw [Zhi] | rw [Zhj]))
 dsimp only [Z0C, Z1z, Zy4, Zy5, Zof, ZKC, ZIX, ZiC, Z1W, Z2F, ZmT]
 rw [if_pos hc, if_pos k2, if_pos k1]
 rw [if_neg (by rw [E1]; decide), if_neg (by rw [E2]; decide), if_neg (by rw [E3]; decide), if_neg (by rw [E4]; decide)]
 by_cases hd : Z9C (Z1 Z3 Z4).1 = true
 ·have hd' : Z0n (Z1 Z3 Z4).1 = true := by rw [<- Zja]; exact hd
  obtain ⟨d1, d2⟩ := ZBC (D := (Z1 Z3 Z4).1) (line := (Z1 Z3 Z4).2) (Nat.le_trans hl (by decide)) hd'
  rw [if_pos hd, if_neg (by rw [k3, d1]; decide)]
  by_cases he : eqS (Z08 (Z1 Z3 Z4).1 (Z1 Z3 Z4).2).2 (bs [101, 114, 114, 111, 114]) = true
  ·have hD : (Z08 (Z1 Z3 Z4).1 (Z1 Z3 Z4).2).1 = (Z1 Z3 Z4).1 := by
    rw [k3]
    exact d2 (by rw [<- k3]; exact Z0T.1 he)
   rw [if_pos he, if_neg (by rw [hD, ZpP]; decide)]
   exact T0
  ·rw [if_neg he]
   exact T1
 ·rw [if_neg hd]
  exact T2

def l_FnConsole (Z3 : Nat) (Z4 : List Int) : Bool := true
theorem ZyJ (Z3 : Nat) (Z4 : List Int) (hp : (bytB Z3 Z4) = true) : ZbQ 1000000 Z3 Z4 = some (l_FnConsole Z3 Z4) := by
 exact ZCv Z3 Z4 hp
def Zlm : RunP
 | [.s Z3 (.byts Z4)] => some (bytB Z3 Z4, Z4k (l_FnConsole Z3 Z4))
 | _ => none
theorem Zt5 : Sound prog 5 Zlm := by
 refine Zd Z9i Zzv (by kernel_rfl) func5 ntmps5 rfl (by kernel_rfl) fun q r E => ?_
 unfold Zlm at E
 split at E
 ·obtain ⟨hp, rfl⟩ := so2 E
  rename_i Z3 Z4
  exact ⟨_, _, rfl, (ZAE _ Z3 Z4).trans (ZyJ Z3 Z4 hp)⟩
 ·cases E

end

end Go.Proofs.YtcdpfpfbilfpoaaGreatDoor
