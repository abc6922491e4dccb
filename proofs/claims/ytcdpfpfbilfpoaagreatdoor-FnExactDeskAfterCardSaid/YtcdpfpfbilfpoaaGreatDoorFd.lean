import Derived.Test.YtcdpfpfbilfpoaaGreatDoorFa
import Derived.Test.YtcdpfpfbilfpoaaGreatDoorProg
set_option linter.unusedSimpArgs false
set_option linter.unusedVariables false
namespace Go.Proofs.YtcdpfpfbilfpoaaGreatDoor
open Go.RowKit Tryz
noncomputable section
def S_i_isRight : Sums := ⟨tblS [(128, run_i_less), (129, run_i_product)], tblM [], false⟩
theorem SO_i_isRight : SumsOK prog S_i_isRight := ⟨tblS_ok ⟨⟨call128, sound_i_less⟩, ⟨call129, sound_i_product⟩, ⟨⟩⟩, tM⟩
def Fo_i_isRight (p colour : Int) (a b c : P2) : Option (Bool) :=
 (if (prB p) = true then (if (prB p) = true then (if (prB p) = true then some ((i_product p colour (i_less p b a) (i_less p c a)) == 0) else none) else none) else none)
theorem eq_i_isRight (p colour : Int) (a b c : P2) : eT S_i_isRight 75 23 dec_b [pI p, pI colour, pA a, pA b, pA c] = Fo_i_isRight p colour a b c := by
 kernel_rfl
def i_isRight (p colour : Int) (a b c : P2) : Bool :=
 (i_product p colour (i_less p b a) (i_less p c a)) == 0
theorem tot_i_isRight (p colour : Int) (a b c : P2) (hp : (prB p) = true) : Fo_i_isRight p colour a b c = some (i_isRight p colour a b c) := by
 try have h0 := prB_ne hp
 unfold Fo_i_isRight i_isRight
 (try simp only [wI_eq])
 repeat' (first | with_reducible rfl | with_reducible refine chk_opt hp ?_ | with_reducible refine chk_opt h0 ?_ | refine chk_opt (and_all hp fun _ => hp) ?_ | refine chk_opt (and_all hp fun _ => rfl) ?_ | refine ite_opt (fun _ => ?_) (fun _ => ?_) | rfl)
def run_i_isRight : RunP
 | [.v (.int .i64 p), .v (.int .i64 colour), .v (.agg ⟨[.int .i64 a0, .int .i64 a1]⟩), .v (.agg ⟨[.int .i64 b0, .int .i64 b1]⟩), .v (.agg ⟨[.int .i64 c0, .int .i64 c1]⟩)] => some (prB p, enc_b (i_isRight p colour (a0, a1) (b0, b1) (c0, c1)))
 | _ => none
theorem sound_i_isRight : Sound prog 75 run_i_isRight := by
 refine sound_1 de_b SO_i_isRight (by kernel_rfl) func75 ntmps75 rfl (by kernel_rfl) fun q r E => ?_
 unfold run_i_isRight at E
 split at E
 ·obtain ⟨hp, rfl⟩ := so2 E
  rename_i p colour a0 a1 b0 b1 c0 c1
  exact ⟨_, _, rfl, (eq_i_isRight p colour (a0, a1) (b0, b1) (c0, c1)).trans (tot_i_isRight p colour (a0, a1) (b0, b1) (c0, c1) hp)⟩
 ·cases E

def S_s_HasRightAngle : Sums := ⟨tblS [(38, run_s_l02Code), (205, run_s_l01Minus), (224, run_s_l02Product)], tblM [], false⟩
theorem SO_s_HasRightAngle : SumsOK prog S_s_HasRightAngle := ⟨tblS_ok ⟨⟨call38, sound_s_l02Code⟩, ⟨call205, sound_s_l01Minus⟩, ⟨call224, sound_s_l02Product⟩, ⟨⟩⟩, tM⟩
def Fo_s_HasRightAngle (p colour : Int) (a b c : P2) : Option (Bool × Int) :=
 (if ((s_l02Code p colour 3 [a.1, a.2, b.1, b.2, c.1, c.2]) != 0) = true then some (false, (s_l02Code p colour 3 [a.1, a.2, b.1, b.2, c.1, c.2])) else (if (prB p) = true then (if (prB p) = true then (if (prB p) = true then some ((s_l02Product p colour (s_l01Minus p b a) (s_l01Minus p c a)) == 0, 0) else none) else none) else none))
theorem eq_s_HasRightAngle (p colour : Int) (a b c : P2) : eT S_s_HasRightAngle 191 35 dec_b_i [pI p, pI colour, pA a, pA b, pA c] = Fo_s_HasRightAngle p colour a b c := by
 kernel_rfl
def s_HasRightAngle (p colour : Int) (a b c : P2) : Bool × Int :=
 (if ((s_l02Code p colour 3 [a.1, a.2, b.1, b.2, c.1, c.2]) != 0) = true then (false, (s_l02Code p colour 3 [a.1, a.2, b.1, b.2, c.1, c.2])) else ((s_l02Product p colour (s_l01Minus p b a) (s_l01Minus p c a)) == 0, 0))
theorem tot_s_HasRightAngle (p colour : Int) (a b c : P2) : Fo_s_HasRightAngle p colour a b c = some (s_HasRightAngle p colour a b c) := by
 unfold Fo_s_HasRightAngle s_HasRightAngle
 (try simp only [wI_eq])
 repeat' (first | with_reducible rfl | refine chk_opt (by (first | (with_reducible assumption) | (with_reducible exact l02Code_prB ‹_›) | (with_reducible exact l02Code_prB0 ‹_›))) ?_ | refine ite_opt (fun _ => ?_) (fun _ => ?_) | rfl)
def run_s_HasRightAngle : RunP
 | [.v (.int .i64 p), .v (.int .i64 colour), .v (.agg ⟨[.int .i64 a0, .int .i64 a1]⟩), .v (.agg ⟨[.int .i64 b0, .int .i64 b1]⟩), .v (.agg ⟨[.int .i64 c0, .int .i64 c1]⟩)] => some (true, enc_b_i (s_HasRightAngle p colour (a0, a1) (b0, b1) (c0, c1)))
 | _ => none
theorem sound_s_HasRightAngle : Sound prog 191 run_s_HasRightAngle := by
 refine sound_1 de_b_i SO_s_HasRightAngle (by kernel_rfl) func191 ntmps191 rfl (by kernel_rfl) fun q r E => ?_
 unfold run_s_HasRightAngle at E
 split at E
 ·obtain ⟨hp, rfl⟩ := so2 E
  rename_i p colour a0 a1 b0 b1 c0 c1
  exact ⟨_, _, rfl, (eq_s_HasRightAngle p colour (a0, a1) (b0, b1) (c0, c1)).trans (tot_s_HasRightAngle p colour (a0, a1) (b0, b1) (c0, c1))⟩
 ·cases E

def S_i_SpreadAt_c1 : Sums := ⟨tblS [(36, run_i_isColour), (37, run_i_arePoints)], tblM [], false⟩
theorem SO_i_SpreadAt_c1 : SumsOK prog S_i_SpreadAt_c1 := ⟨tblS_ok ⟨⟨call36, sound_i_isColour⟩, ⟨call37, sound_i_arePoints⟩, ⟨⟩⟩, tM⟩
def Fo_i_SpreadAt_c1 (c0 c1 : Int) (c2 c3 c4 : P2) : Option (Bool) :=
 (if (i_isColour c0) = true then some (i_arePoints c1 [c2, c3, c4]) else some false)
theorem eq_i_SpreadAt_c1 (c0 c1 : Int) (c2 c3 c4 : P2) : eT S_i_SpreadAt_c1 134 16 dec_b [.p [.int .i64 c0], .p [.int .i64 c1], .p [.int .i64 c2.1, .int .i64 c2.2], .p [.int .i64 c3.1, .int .i64 c3.2], .p [.int .i64 c4.1, .int .i64 c4.2]] = Fo_i_SpreadAt_c1 c0 c1 c2 c3 c4 := by
 kernel_rfl
def i_SpreadAt_c1 (c0 c1 : Int) (c2 c3 c4 : P2) : Bool :=
 (if (i_isColour c0) = true then (i_arePoints c1 [c2, c3, c4]) else false)
theorem tot_i_SpreadAt_c1 (c0 c1 : Int) (c2 c3 c4 : P2) : Fo_i_SpreadAt_c1 c0 c1 c2 c3 c4 = some (i_SpreadAt_c1 c0 c1 c2 c3 c4) := by
 unfold Fo_i_SpreadAt_c1 i_SpreadAt_c1
 (try simp only [wI_eq])
 repeat' (first | with_reducible rfl | refine ite_opt (fun _ => ?_) (fun _ => ?_) | rfl)
def run_i_SpreadAt_c1 : RunP
 | [.p [.int .i64 c0], .p [.int .i64 c1], .p [.int .i64 c20, .int .i64 c21], .p [.int .i64 c30, .int .i64 c31], .p [.int .i64 c40, .int .i64 c41]] => some (true, enc_b (i_SpreadAt_c1 c0 c1 (c20, c21) (c30, c31) (c40, c41)))
 | _ => none
theorem sound_i_SpreadAt_c1 : Sound prog 134 run_i_SpreadAt_c1 := by
 refine sound_1 de_b SO_i_SpreadAt_c1 (by kernel_rfl) func134 ntmps134 rfl (by kernel_rfl) fun q r E => ?_
 unfold run_i_SpreadAt_c1 at E
 split at E
 ·obtain ⟨hp, rfl⟩ := so2 E
  rename_i c0 c1 c20 c21 c30 c31 c40 c41
  exact ⟨_, _, rfl, (eq_i_SpreadAt_c1 c0 c1 (c20, c21) (c30, c31) (c40, c41)).trans (tot_i_SpreadAt_c1 c0 c1 (c20, c21) (c30, c31) (c40, c41))⟩
 ·cases E

def S_i_cross : Sums := ⟨tblS [(216, run_i_way), (129, run_i_product), (173, run_i_rest), (137, run_i_divide)], tblM [], false⟩
theorem SO_i_cross : SumsOK prog S_i_cross := ⟨tblS_ok ⟨⟨call216, sound_i_way⟩, ⟨call129, sound_i_product⟩, ⟨call173, sound_i_rest⟩, ⟨call137, sound_i_divide⟩, ⟨⟩⟩, tM⟩
def Fo_i_cross (p colour : Int) (l m : P3) : Option (Int) :=
 (if (prB p) = true then (if (prB p) = true then (if (prB p) = true then (if (prB p) = true then (if (prB p) = true then (if (prB p) = true then (if (prB p) = true then some (i_divide p (wI ((i_product p colour (i_way p l) (i_way p m)) * (i_product p colour (i_way p l) (i_way p m)))) (i_rest p (wI ((i_product p colour (i_way p l) (i_way p l)) * (i_product p colour (i_way p m) (i_way p m)))))) else none) else none) else none) else none) else none) else none) else none)
theorem eq_i_cross (p colour : Int) (l m : P3) : eT S_i_cross 217 41 dec_i [pI p, pI colour, pB l, pB m] = Fo_i_cross p colour l m := by
 kernel_rfl
def i_cross (p colour : Int) (l m : P3) : Int :=
 (i_divide p (wrap64 ((i_product p colour (i_way p l) (i_way p m)) * (i_product p colour (i_way p l) (i_way p m)))) (i_rest p (wrap64 ((i_product p colour (i_way p l) (i_way p l)) * (i_product p colour (i_way p m) (i_way p m))))))
theorem tot_i_cross (p colour : Int) (l m : P3) (hp : (prB p) = true) : Fo_i_cross p colour l m = some (i_cross p colour l m) := by
 try have h0 := prB_ne hp
 unfold Fo_i_cross i_cross
 (try simp only [wI_eq])
 repeat' (first | with_reducible rfl | with_reducible refine chk_opt hp ?_ | with_reducible refine chk_opt h0 ?_ | refine chk_opt (and_all hp fun _ => hp) ?_ | refine chk_opt (and_all hp fun _ => rfl) ?_ | refine ite_opt (fun _ => ?_) (fun _ => ?_) | rfl)
def run_i_cross : RunP
 | [.v (.int .i64 p), .v (.int .i64 colour), .v (.agg ⟨[.int .i64 l0, .int .i64 l1, .int .i64 l2]⟩), .v (.agg ⟨[.int .i64 m0, .int .i64 m1, .int .i64 m2]⟩)] => some (prB p, enc_i (i_cross p colour (l0, l1, l2) (m0, m1, m2)))
 | _ => none
theorem sound_i_cross : Sound prog 217 run_i_cross := by
 refine sound_1 de_i SO_i_cross (by kernel_rfl) func217 ntmps217 rfl (by kernel_rfl) fun q r E => ?_
 unfold run_i_cross at E
 split at E
 ·obtain ⟨hp, rfl⟩ := so2 E
  rename_i p colour l0 l1 l2 m0 m1 m2
  exact ⟨_, _, rfl, (eq_i_cross p colour (l0, l1, l2) (m0, m1, m2)).trans (tot_i_cross p colour (l0, l1, l2) (m0, m1, m2) hp)⟩
 ·cases E

def S_i_spread : Sums := ⟨tblS [(217, run_i_cross), (173, run_i_rest)], tblM [], false⟩
theorem SO_i_spread : SumsOK prog S_i_spread := ⟨tblS_ok ⟨⟨call217, sound_i_cross⟩, ⟨call173, sound_i_rest⟩, ⟨⟩⟩, tM⟩
def Fo_i_spread (p colour : Int) (l m : P3) : Option (Int) :=
 (if (prB p) = true then (if (prB p) = true then some (i_rest p (wI (1 - (i_cross p colour l m)))) else none) else none)
theorem eq_i_spread (p colour : Int) (l m : P3) : eT S_i_spread 177 17 dec_i [pI p, pI colour, pB l, pB m] = Fo_i_spread p colour l m := by
 kernel_rfl
def i_spread (p colour : Int) (l m : P3) : Int :=
 (i_rest p (wrap64 (1 - (i_cross p colour l m))))
theorem tot_i_spread (p colour : Int) (l m : P3) (hp : (prB p) = true) : Fo_i_spread p colour l m = some (i_spread p colour l m) := by
 try have h0 := prB_ne hp
 unfold Fo_i_spread i_spread
 (try simp only [wI_eq])
 repeat' (first | with_reducible rfl | with_reducible refine chk_opt hp ?_ | with_reducible refine chk_opt h0 ?_ | refine chk_opt (and_all hp fun _ => hp) ?_ | refine chk_opt (and_all hp fun _ => rfl) ?_ | refine ite_opt (fun _ => ?_) (fun _ => ?_) | rfl)
def run_i_spread : RunP
 | [.v (.int .i64 p), .v (.int .i64 colour), .v (.agg ⟨[.int .i64 l0, .int .i64 l1, .int .i64 l2]⟩), .v (.agg ⟨[.int .i64 m0, .int .i64 m1, .int .i64 m2]⟩)] => some (prB p, enc_i (i_spread p colour (l0, l1, l2) (m0, m1, m2)))
 | _ => none
theorem sound_i_spread : Sound prog 177 run_i_spread := by
 refine sound_1 de_i SO_i_spread (by kernel_rfl) func177 ntmps177 rfl (by kernel_rfl) fun q r E => ?_
 unfold run_i_spread at E
 split at E
 ·obtain ⟨hp, rfl⟩ := so2 E
  rename_i p colour l0 l1 l2 m0 m1 m2
  exact ⟨_, _, rfl, (eq_i_spread p colour (l0, l1, l2) (m0, m1, m2)).trans (tot_i_spread p colour (l0, l1, l2) (m0, m1, m2) hp)⟩
 ·cases E

def S_i_spreadAt : Sums := ⟨tblS [(110, run_i_lineThrough), (113, run_i_isNull), (177, run_i_spread)], tblM [], false⟩
theorem SO_i_spreadAt : SumsOK prog S_i_spreadAt := ⟨tblS_ok ⟨⟨call110, sound_i_lineThrough⟩, ⟨call113, sound_i_isNull⟩, ⟨call177, sound_i_spread⟩, ⟨⟩⟩, tM⟩
def Fo_i_spreadAt (p colour : Int) (a b c : P2) : Option (Int × Bool) :=
 (if (a == b) = true then some (0, false) else (if (a == c) = true then some (0, false) else (if (prB p) = true then (if (prB p) = true then (if (prB p) = true then (if (i_isNull p colour (i_lineThrough p a b)) = true then some (0, false) else (if (prB p) = true then (if (i_isNull p colour (i_lineThrough p a c)) = true then some (0, false) else (if (prB p) = true then some ((i_spread p colour (i_lineThrough p a b) (i_lineThrough p a c)), true) else none)) else none)) else none) else none) else none)))
theorem eq_i_spreadAt (p colour : Int) (a b c : P2) : eT S_i_spreadAt 135 45 dec_i_b [pI p, pI colour, pA a, pA b, pA c] = Fo_i_spreadAt p colour a b c := by
 kernel_rfl
def i_spreadAt (p colour : Int) (a b c : P2) : Int × Bool :=
 (if (a == b) = true then (0, false) else (if (a == c) = true then (0, false) else (if (i_isNull p colour (i_lineThrough p a b)) = true then (0, false) else (if (i_isNull p colour (i_lineThrough p a c)) = true then (0, false) else ((i_spread p colour (i_lineThrough p a b) (i_lineThrough p a c)), true)))))
theorem tot_i_spreadAt (p colour : Int) (a b c : P2) (hp : (prB p) = true) : Fo_i_spreadAt p colour a b c = some (i_spreadAt p colour a b c) := by
 try have h0 := prB_ne hp
 unfold Fo_i_spreadAt i_spreadAt
 (try simp only [wI_eq])
 repeat' (first | with_reducible rfl | with_reducible refine chk_opt hp ?_ | with_reducible refine chk_opt h0 ?_ | refine chk_opt (and_all hp fun _ => hp) ?_ | refine chk_opt (and_all hp fun _ => rfl) ?_ | refine ite_opt (fun _ => ?_) (fun _ => ?_) | rfl)
def run_i_spreadAt : RunP
 | [.v (.int .i64 p), .v (.int .i64 colour), .v (.agg ⟨[.int .i64 a0, .int .i64 a1]⟩), .v (.agg ⟨[.int .i64 b0, .int .i64 b1]⟩), .v (.agg ⟨[.int .i64 c0, .int .i64 c1]⟩)] => some (prB p, enc_i_b (i_spreadAt p colour (a0, a1) (b0, b1) (c0, c1)))
 | _ => none
theorem sound_i_spreadAt : Sound prog 135 run_i_spreadAt := by
 refine sound_1 de_i_b SO_i_spreadAt (by kernel_rfl) func135 ntmps135 rfl (by kernel_rfl) fun q r E => ?_
 unfold run_i_spreadAt at E
 split at E
 ·obtain ⟨hp, rfl⟩ := so2 E
  rename_i p colour a0 a1 b0 b1 c0 c1
  exact ⟨_, _, rfl, (eq_i_spreadAt p colour (a0, a1) (b0, b1) (c0, c1)).trans (tot_i_spreadAt p colour (a0, a1) (b0, b1) (c0, c1) hp)⟩
 ·cases E

def S_i_SpreadAt : Sums := ⟨tblS [(106, run_i_asked), (134, run_i_SpreadAt_c1), (135, run_i_spreadAt)], tblM [], false⟩
theorem SO_i_SpreadAt : SumsOK prog S_i_SpreadAt := ⟨tblS_ok ⟨⟨call106, sound_i_asked⟩, ⟨call134, sound_i_SpreadAt_c1⟩, ⟨call135, sound_i_spreadAt⟩, ⟨⟩⟩, tM⟩
def Fo_i_SpreadAt (p colour : Int) (a b c : P2) : Option (Int × Int) :=
 (if ((true) || !(i_IsField p)) = true then (if ((i_asked p (true) (i_SpreadAt_c1 colour p a b c)) != 0) = true then some (0, (i_asked p (true) (i_SpreadAt_c1 colour p a b c))) else (if (prB p) = true then (if (!((i_spreadAt p colour a b c).2)) = true then some (0, 5) else some ((i_spreadAt p colour a b c).1, 0)) else none)) else none)
theorem eq_i_SpreadAt (p colour : Int) (a b c : P2) : eT S_i_SpreadAt 76 33 dec_i_i [pI p, pI colour, pA a, pA b, pA c] = Fo_i_SpreadAt p colour a b c := by
 kernel_rfl
def i_SpreadAt (p colour : Int) (a b c : P2) : Int × Int :=
 (if ((i_asked p (true) (i_SpreadAt_c1 colour p a b c)) != 0) = true then (0, (i_asked p (true) (i_SpreadAt_c1 colour p a b c))) else (if (!((i_spreadAt p colour a b c).2)) = true then (0, 5) else ((i_spreadAt p colour a b c).1, 0)))
theorem tot_i_SpreadAt (p colour : Int) (a b c : P2) : Fo_i_SpreadAt p colour a b c = some (i_SpreadAt p colour a b c) := by
 unfold Fo_i_SpreadAt i_SpreadAt
 (try simp only [wI_eq])
 repeat' (first | with_reducible rfl | refine chk_opt (by first | with_reducible rfl | exact Bool.true_or _ | (have hq : prB p = true := (by (first | (with_reducible assumption) | (with_reducible exact asked_prB ‹_›) | (with_reducible exact asked_prB0 ‹_›))); first | exact hq | exact mk_ok hq | exact and_all hq (fun _ => rfl) | exact and_all hq (fun _ => hq) | exact and3 hq hq hq | exact and_two hq rfl | exact map3_ok hq) | rfl) ?_ | refine ite_opt (fun _ => ?_) (fun _ => ?_) | rfl)
def run_i_SpreadAt : RunP
 | [.v (.int .i64 p), .v (.int .i64 colour), .v (.agg ⟨[.int .i64 a0, .int .i64 a1]⟩), .v (.agg ⟨[.int .i64 b0, .int .i64 b1]⟩), .v (.agg ⟨[.int .i64 c0, .int .i64 c1]⟩)] => some (true, enc_i_i (i_SpreadAt p colour (a0, a1) (b0, b1) (c0, c1)))
 | _ => none
theorem sound_i_SpreadAt : Sound prog 76 run_i_SpreadAt := by
 refine sound_1 de_i_i SO_i_SpreadAt (by kernel_rfl) func76 ntmps76 rfl (by kernel_rfl) fun q r E => ?_
 unfold run_i_SpreadAt at E
 split at E
 ·obtain ⟨hp, rfl⟩ := so2 E
  rename_i p colour a0 a1 b0 b1 c0 c1
  exact ⟨_, _, rfl, (eq_i_SpreadAt p colour (a0, a1) (b0, b1) (c0, c1)).trans (tot_i_SpreadAt p colour (a0, a1) (b0, b1) (c0, c1))⟩
 ·cases E

def S_s_l03Points : Sums := ⟨tblS [(97, run_s_l01Code), (160, run_s_l01In)], tblM [], false⟩
theorem SO_s_l03Points : SumsOK prog S_s_l03Points := ⟨tblS_ok ⟨⟨call97, sound_s_l01Code⟩, ⟨call160, sound_s_l01In⟩, ⟨⟩⟩, tM⟩
def Fo_s_l03Points (p colour : Int) (pointsn : Nat) (pointsl : List Int) : Option (Int) :=
 (if (lenB pointsn 2 pointsl) = true then (if ((s_l01Code p (rows2 pointsn pointsl)) == 0) = true then (if (!(s_l01In colour 0 2)) = true then some 2 else some (s_l01Code p (rows2 pointsn pointsl))) else some (s_l01Code p (rows2 pointsn pointsl))) else none)
theorem eq_s_l03Points (p colour : Int) (pointsn : Nat) (pointsl : List Int) : eT S_s_l03Points 230 19 dec_i [pI p, pI colour, .s pointsn (.ints pointsl)] = Fo_s_l03Points p colour pointsn pointsl := by
 kernel_rfl
def s_l03Points (p colour : Int) (pointsn : Nat) (pointsl : List Int) : Int :=
 (if ((s_l01Code p (rows2 pointsn pointsl)) == 0) = true then (if (!(s_l01In colour 0 2)) = true then 2 else (s_l01Code p (rows2 pointsn pointsl))) else (s_l01Code p (rows2 pointsn pointsl)))
theorem tot_s_l03Points (p colour : Int) (pointsn : Nat) (pointsl : List Int) (hp : (lenB pointsn 2 pointsl) = true) : Fo_s_l03Points p colour pointsn pointsl = some (s_l03Points p colour pointsn pointsl) := by
 try have h0 := prB_ne hp
 unfold Fo_s_l03Points s_l03Points
 (try simp only [wI_eq])
 repeat' (first | with_reducible rfl | with_reducible refine chk_opt hp ?_ | with_reducible refine chk_opt h0 ?_ | refine chk_opt (and_all hp fun _ => hp) ?_ | refine chk_opt (and_all hp fun _ => rfl) ?_ | refine ite_opt (fun _ => ?_) (fun _ => ?_) | rfl)
def run_s_l03Points : RunP
 | [.v (.int .i64 p), .v (.int .i64 colour), .s pointsn (.ints pointsl)] => some (lenB pointsn 2 pointsl, enc_i (s_l03Points p colour pointsn pointsl))
 | _ => none
theorem sound_s_l03Points : Sound prog 230 run_s_l03Points := by
 refine sound_1 de_i SO_s_l03Points (by kernel_rfl) func230 ntmps230 rfl (by kernel_rfl) fun q r E => ?_
 unfold run_s_l03Points at E
 split at E
 ·obtain ⟨hp, rfl⟩ := so2 E
  rename_i p colour pointsn pointsl
  exact ⟨_, _, rfl, (eq_s_l03Points p colour pointsn pointsl).trans (tot_s_l03Points p colour pointsn pointsl hp)⟩
 ·cases E

theorem l03Points_prB {p c : Int} {n : Nat} {l : List Int} (h : ¬ (s_l03Points p c n l != 0) = true) : prB p = true := by
 refine Pr_prB (i_IsField_ok ?_)
 have h : s_l03Points p c n l = 0 := by simpa using h
 cases hf : i_IsField p
 ·simp [s_l03Points, s_l01Code, s_l01Field, hf] at h
 ·rfl
theorem l03Points_prB0 {p c : Int} {n : Nat} {l : List Int} (h : (s_l03Points p c n l == 0) = true) : prB p = true := l03Points_prB (by simpa using h)
def S_s_l03At : Sums := ⟨tblS [(205, run_s_l01Minus), (224, run_s_l02Product), (233, run_s_l01Inverse), (242, run_s_l01Mod)], tblM [], false⟩
theorem SO_s_l03At : SumsOK prog S_s_l03At := ⟨tblS_ok ⟨⟨call205, sound_s_l01Minus⟩, ⟨call224, sound_s_l02Product⟩, ⟨call233, sound_s_l01Inverse⟩, ⟨call242, sound_s_l01Mod⟩, ⟨⟩⟩, tM⟩
def Fo_s_l03At (p colour : Int) (a b c : P2) : Option (Int) :=
 (if (prB p) = true then (if (prB p) = true then (if (prB p) = true then (if (!(p == 0)) = true then (if (prB p) = true then (if (prB p) = true then (if (prB p) = true then (if (prB p) = true then some (s_l01Mod (wI (1 - (wI (((wI ((s_l02Product p colour (s_l01Minus p b a) (s_l01Minus p c a)) * (s_l02Product p colour (s_l01Minus p b a) (s_l01Minus p c a)))).tmod p) * (s_l01Inverse (wI ((s_l02Product p colour (s_l01Minus p b a) (s_l01Minus p b a)) * (s_l02Product p colour (s_l01Minus p c a) (s_l01Minus p c a)))) p))))) p) else none) else none) else none) else none) else none) else none) else none) else none)
theorem eq_s_l03At (p colour : Int) (a b c : P2) : eT S_s_l03At 231 49 dec_i [pI p, pI colour, pA a, pA b, pA c] = Fo_s_l03At p colour a b c := by
 kernel_rfl
def s_l03At (p colour : Int) (a b c : P2) : Int :=
 (s_l01Mod (wrap64 (1 - (wrap64 (((wrap64 ((s_l02Product p colour (s_l01Minus p b a) (s_l01Minus p c a)) * (s_l02Product p colour (s_l01Minus p b a) (s_l01Minus p c a)))).tmod p) * (s_l01Inverse (wrap64 ((s_l02Product p colour (s_l01Minus p b a) (s_l01Minus p b a)) * (s_l02Product p colour (s_l01Minus p c a) (s_l01Minus p c a)))) p))))) p)
theorem tot_s_l03At (p colour : Int) (a b c : P2) (hp : (prB p) = true) : Fo_s_l03At p colour a b c = some (s_l03At p colour a b c) := by
 try have h0 := prB_ne hp
 unfold Fo_s_l03At s_l03At
 (try simp only [wI_eq])
 repeat' (first | with_reducible rfl | with_reducible refine chk_opt hp ?_ | with_reducible refine chk_opt h0 ?_ | refine chk_opt (and_all hp fun _ => hp) ?_ | refine chk_opt (and_all hp fun _ => rfl) ?_ | refine ite_opt (fun _ => ?_) (fun _ => ?_) | rfl)
def run_s_l03At : RunP
 | [.v (.int .i64 p), .v (.int .i64 colour), .v (.agg ⟨[.int .i64 a0, .int .i64 a1]⟩), .v (.agg ⟨[.int .i64 b0, .int .i64 b1]⟩), .v (.agg ⟨[.int .i64 c0, .int .i64 c1]⟩)] => some (prB p, enc_i (s_l03At p colour (a0, a1) (b0, b1) (c0, c1)))
 | _ => none
theorem sound_s_l03At : Sound prog 231 run_s_l03At := by
 refine sound_1 de_i SO_s_l03At (by kernel_rfl) func231 ntmps231 rfl (by kernel_rfl) fun q r E => ?_
 unfold run_s_l03At at E
 split at E
 ·obtain ⟨hp, rfl⟩ := so2 E
  rename_i p colour a0 a1 b0 b1 c0 c1
  exact ⟨_, _, rfl, (eq_s_l03At p colour (a0, a1) (b0, b1) (c0, c1)).trans (tot_s_l03At p colour (a0, a1) (b0, b1) (c0, c1) hp)⟩
 ·cases E

def S_s_SpreadAt : Sums := ⟨tblS [(230, run_s_l03Points), (190, run_s_l02Quadrance), (231, run_s_l03At)], tblM [], false⟩
theorem SO_s_SpreadAt : SumsOK prog S_s_SpreadAt := ⟨tblS_ok ⟨⟨call230, sound_s_l03Points⟩, ⟨call190, sound_s_l02Quadrance⟩, ⟨call231, sound_s_l03At⟩, ⟨⟩⟩, tM⟩
def Fo_s_SpreadAt (p colour : Int) (a b c : P2) : Option (Int × Int) :=
 (if ((s_l03Points p colour 3 [a.1, a.2, b.1, b.2, c.1, c.2]) == 0) = true then (if (prB p) = true then (if ((s_l02Quadrance p colour a b) == 0) = true then some (0, 5) else (if (prB p) = true then (if ((s_l02Quadrance p colour a c) == 0) = true then some (0, 5) else (if ((s_l03Points p colour 3 [a.1, a.2, b.1, b.2, c.1, c.2]) != 0) = true then some (0, (s_l03Points p colour 3 [a.1, a.2, b.1, b.2, c.1, c.2])) else (if (prB p) = true then some ((s_l03At p colour a b c), 0) else none))) else none)) else none) else (if ((s_l03Points p colour 3 [a.1, a.2, b.1, b.2, c.1, c.2]) != 0) = true then some (0, (s_l03Points p colour 3 [a.1, a.2, b.1, b.2, c.1, c.2])) else (if (prB p) = true then some ((s_l03At p colour a b c), 0) else none)))
theorem eq_s_SpreadAt (p colour : Int) (a b c : P2) : eT S_s_SpreadAt 193 47 dec_i_i [pI p, pI colour, pA a, pA b, pA c] = Fo_s_SpreadAt p colour a b c := by
 kernel_rfl
def s_SpreadAt (p colour : Int) (a b c : P2) : Int × Int :=
 (if ((s_l03Points p colour 3 [a.1, a.2, b.1, b.2, c.1, c.2]) == 0) = true then (if ((s_l02Quadrance p colour a b) == 0) = true then (0, 5) else (if ((s_l02Quadrance p colour a c) == 0) = true then (0, 5) else (if ((s_l03Points p colour 3 [a.1, a.2, b.1, b.2, c.1, c.2]) != 0) = true then (0, (s_l03Points p colour 3 [a.1, a.2, b.1, b.2, c.1, c.2])) else ((s_l03At p colour a b c), 0)))) else (if ((s_l03Points p colour 3 [a.1, a.2, b.1, b.2, c.1, c.2]) != 0) = true then (0, (s_l03Points p colour 3 [a.1, a.2, b.1, b.2, c.1, c.2])) else ((s_l03At p colour a b c), 0)))
theorem tot_s_SpreadAt (p colour : Int) (a b c : P2) : Fo_s_SpreadAt p colour a b c = some (s_SpreadAt p colour a b c) := by
 unfold Fo_s_SpreadAt s_SpreadAt
 (try simp only [wI_eq])
 repeat' (first | with_reducible rfl | refine chk_opt (by (first | (with_reducible assumption) | (with_reducible exact l03Points_prB ‹_›) | (with_reducible exact l03Points_prB0 ‹_›))) ?_ | refine ite_opt (fun _ => ?_) (fun _ => ?_) | rfl)
def run_s_SpreadAt : RunP
 | [.v (.int .i64 p), .v (.int .i64 colour), .v (.agg ⟨[.int .i64 a0, .int .i64 a1]⟩), .v (.agg ⟨[.int .i64 b0, .int .i64 b1]⟩), .v (.agg ⟨[.int .i64 c0, .int .i64 c1]⟩)] => some (true, enc_i_i (s_SpreadAt p colour (a0, a1) (b0, b1) (c0, c1)))
 | _ => none
theorem sound_s_SpreadAt : Sound prog 193 run_s_SpreadAt := by
 refine sound_1 de_i_i SO_s_SpreadAt (by kernel_rfl) func193 ntmps193 rfl (by kernel_rfl) fun q r E => ?_
 unfold run_s_SpreadAt at E
 split at E
 ·obtain ⟨hp, rfl⟩ := so2 E
  rename_i p colour a0 a1 b0 b1 c0 c1
  exact ⟨_, _, rfl, (eq_s_SpreadAt p colour (a0, a1) (b0, b1) (c0, c1)).trans (tot_s_SpreadAt p colour (a0, a1) (b0, b1) (c0, c1))⟩
 ·cases E

def S_i_archimedes : Sums := ⟨tblS [(173, run_i_rest)], tblM [], false⟩
theorem SO_i_archimedes : SumsOK prog S_i_archimedes := ⟨tblS_ok ⟨⟨call173, sound_i_rest⟩, ⟨⟩⟩, tM⟩
def Fo_i_archimedes (p a : Int) (b c : Int) : Option (Int) :=
 (if (prB p) = true then some (i_rest p (wI ((wI ((wI ((wI (a + b)) + c)) * (wI ((wI (a + b)) + c)))) - (wI (2 * (wI ((wI ((wI (a * a)) + (wI (b * b)))) + (wI (c * c))))))))) else none)
theorem eq_i_archimedes (p a : Int) (b c : Int) : eT S_i_archimedes 136 35 dec_i [pI p, pI a, pI b, pI c] = Fo_i_archimedes p a b c := by
 kernel_rfl
def i_archimedes (p a : Int) (b c : Int) : Int :=
 (i_rest p (wrap64 ((wrap64 ((wrap64 ((wrap64 (a + b)) + c)) * (wrap64 ((wrap64 (a + b)) + c)))) - (wrap64 (2 * (wrap64 ((wrap64 ((wrap64 (a * a)) + (wrap64 (b * b)))) + (wrap64 (c * c)))))))))
theorem tot_i_archimedes (p a : Int) (b c : Int) (hp : (prB p) = true) : Fo_i_archimedes p a b c = some (i_archimedes p a b c) := by
 try have h0 := prB_ne hp
 unfold Fo_i_archimedes i_archimedes
 (try simp only [wI_eq])
 repeat' (first | with_reducible rfl | with_reducible refine chk_opt hp ?_ | with_reducible refine chk_opt h0 ?_ | refine chk_opt (and_all hp fun _ => hp) ?_ | refine chk_opt (and_all hp fun _ => rfl) ?_ | refine ite_opt (fun _ => ?_) (fun _ => ?_) | rfl)
def run_i_archimedes : RunP
 | [.v (.int .i64 p), .v (.int .i64 a), .v (.int .i64 b), .v (.int .i64 c)] => some (prB p, enc_i (i_archimedes p a b c))
 | _ => none
theorem sound_i_archimedes : Sound prog 136 run_i_archimedes := by
 refine sound_1 de_i SO_i_archimedes (by kernel_rfl) func136 ntmps136 rfl (by kernel_rfl) fun q r E => ?_
 unfold run_i_archimedes at E
 split at E
 ·obtain ⟨hp, rfl⟩ := so2 E
  rename_i p a b c
  exact ⟨_, _, rfl, (eq_i_archimedes p a b c).trans (tot_i_archimedes p a b c hp)⟩
 ·cases E

def S_i_QuadreaOf : Sums := ⟨tblS [(115, run_i_triangle), (72, run_i_quadrance), (136, run_i_archimedes)], tblM [], false⟩
theorem SO_i_QuadreaOf : SumsOK prog S_i_QuadreaOf := ⟨tblS_ok ⟨⟨call115, sound_i_triangle⟩, ⟨call72, sound_i_quadrance⟩, ⟨call136, sound_i_archimedes⟩, ⟨⟩⟩, tM⟩
def Fo_i_QuadreaOf (p colour : Int) (a b c : P2) : Option (Int × Int) :=
 (if ((i_triangle p colour a b c) != 0) = true then some (0, (i_triangle p colour a b c)) else (if (prB p) = true then (if (prB p) = true then (if (prB p) = true then (if (prB p) = true then some ((i_archimedes p (i_quadrance p colour b c) (i_quadrance p colour a c) (i_quadrance p colour a b)), 0) else none) else none) else none) else none))
theorem eq_i_QuadreaOf (p colour : Int) (a b c : P2) : eT S_i_QuadreaOf 77 39 dec_i_i [pI p, pI colour, pA a, pA b, pA c] = Fo_i_QuadreaOf p colour a b c := by
 kernel_rfl
def i_QuadreaOf (p colour : Int) (a b c : P2) : Int × Int :=
 (if ((i_triangle p colour a b c) != 0) = true then (0, (i_triangle p colour a b c)) else ((i_archimedes p (i_quadrance p colour b c) (i_quadrance p colour a c) (i_quadrance p colour a b)), 0))
theorem tot_i_QuadreaOf (p colour : Int) (a b c : P2) : Fo_i_QuadreaOf p colour a b c = some (i_QuadreaOf p colour a b c) := by
 unfold Fo_i_QuadreaOf i_QuadreaOf
 (try simp only [wI_eq])
 repeat' (first | with_reducible rfl | refine chk_opt (by (first | (with_reducible assumption) | (with_reducible exact triangle_prB ‹_›) | (with_reducible exact triangle_prB0 ‹_›))) ?_ | refine ite_opt (fun _ => ?_) (fun _ => ?_) | rfl)
def run_i_QuadreaOf : RunP
 | [.v (.int .i64 p), .v (.int .i64 colour), .v (.agg ⟨[.int .i64 a0, .int .i64 a1]⟩), .v (.agg ⟨[.int .i64 b0, .int .i64 b1]⟩), .v (.agg ⟨[.int .i64 c0, .int .i64 c1]⟩)] => some (true, enc_i_i (i_QuadreaOf p colour (a0, a1) (b0, b1) (c0, c1)))
 | _ => none
theorem sound_i_QuadreaOf : Sound prog 77 run_i_QuadreaOf := by
 refine sound_1 de_i_i SO_i_QuadreaOf (by kernel_rfl) func77 ntmps77 rfl (by kernel_rfl) fun q r E => ?_
 unfold run_i_QuadreaOf at E
 split at E
 ·obtain ⟨hp, rfl⟩ := so2 E
  rename_i p colour a0 a1 b0 b1 c0 c1
  exact ⟨_, _, rfl, (eq_i_QuadreaOf p colour (a0, a1) (b0, b1) (c0, c1)).trans (tot_i_QuadreaOf p colour (a0, a1) (b0, b1) (c0, c1))⟩
 ·cases E

def S_s_l02Archimedes : Sums := ⟨tblS [(242, run_s_l01Mod)], tblM [], false⟩
theorem SO_s_l02Archimedes : SumsOK prog S_s_l02Archimedes := ⟨tblS_ok ⟨⟨call242, sound_s_l01Mod⟩, ⟨⟩⟩, tM⟩
def Fo_s_l02Archimedes (p a : Int) (b c : Int) : Option (Int) :=
 (if (prB p) = true then some (s_l01Mod (wI ((wI ((wI ((wI (a + b)) + c)) * (wI ((wI (a + b)) + c)))) - (wI (2 * (wI ((wI ((wI (a * a)) + (wI (b * b)))) + (wI (c * c)))))))) p) else none)
theorem eq_s_l02Archimedes (p a : Int) (b c : Int) : eT S_s_l02Archimedes 253 33 dec_i [pI p, pI a, pI b, pI c] = Fo_s_l02Archimedes p a b c := by
 kernel_rfl
def s_l02Archimedes (p a : Int) (b c : Int) : Int :=
 (s_l01Mod (wrap64 ((wrap64 ((wrap64 ((wrap64 (a + b)) + c)) * (wrap64 ((wrap64 (a + b)) + c)))) - (wrap64 (2 * (wrap64 ((wrap64 ((wrap64 (a * a)) + (wrap64 (b * b)))) + (wrap64 (c * c)))))))) p)
theorem tot_s_l02Archimedes (p a : Int) (b c : Int) (hp : (prB p) = true) : Fo_s_l02Archimedes p a b c = some (s_l02Archimedes p a b c) := by
 try have h0 := prB_ne hp
 unfold Fo_s_l02Archimedes s_l02Archimedes
 (try simp only [wI_eq])
 repeat' (first | with_reducible rfl | with_reducible refine chk_opt hp ?_ | with_reducible refine chk_opt h0 ?_ | refine chk_opt (and_all hp fun _ => hp) ?_ | refine chk_opt (and_all hp fun _ => rfl) ?_ | refine ite_opt (fun _ => ?_) (fun _ => ?_) | rfl)
def run_s_l02Archimedes : RunP
 | [.v (.int .i64 p), .v (.int .i64 a), .v (.int .i64 b), .v (.int .i64 c)] => some (prB p, enc_i (s_l02Archimedes p a b c))
 | _ => none
theorem sound_s_l02Archimedes : Sound prog 253 run_s_l02Archimedes := by
 refine sound_1 de_i SO_s_l02Archimedes (by kernel_rfl) func253 ntmps253 rfl (by kernel_rfl) fun q r E => ?_
 unfold run_s_l02Archimedes at E
 split at E
 ·obtain ⟨hp, rfl⟩ := so2 E
  rename_i p a b c
  exact ⟨_, _, rfl, (eq_s_l02Archimedes p a b c).trans (tot_s_l02Archimedes p a b c hp)⟩
 ·cases E

def S_s_l04Quadrea : Sums := ⟨tblS [(190, run_s_l02Quadrance), (253, run_s_l02Archimedes)], tblM [], false⟩
theorem SO_s_l04Quadrea : SumsOK prog S_s_l04Quadrea := ⟨tblS_ok ⟨⟨call190, sound_s_l02Quadrance⟩, ⟨call253, sound_s_l02Archimedes⟩, ⟨⟩⟩, tM⟩
def Fo_s_l04Quadrea (p colour : Int) (a b c : P2) : Option (Int) :=
 (if (prB p) = true then (if (prB p) = true then (if (prB p) = true then (if (prB p) = true then some (s_l02Archimedes p (s_l02Quadrance p colour b c) (s_l02Quadrance p colour a c) (s_l02Quadrance p colour a b)) else none) else none) else none) else none)
theorem eq_s_l04Quadrea (p colour : Int) (a b c : P2) : eT S_s_l04Quadrea 232 28 dec_i [pI p, pI colour, pA a, pA b, pA c] = Fo_s_l04Quadrea p colour a b c := by
 kernel_rfl
def s_l04Quadrea (p colour : Int) (a b c : P2) : Int :=
 (s_l02Archimedes p (s_l02Quadrance p colour b c) (s_l02Quadrance p colour a c) (s_l02Quadrance p colour a b))
theorem tot_s_l04Quadrea (p colour : Int) (a b c : P2) (hp : (prB p) = true) : Fo_s_l04Quadrea p colour a b c = some (s_l04Quadrea p colour a b c) := by
 try have h0 := prB_ne hp
 unfold Fo_s_l04Quadrea s_l04Quadrea
 (try simp only [wI_eq])
 repeat' (first | with_reducible rfl | with_reducible refine chk_opt hp ?_ | with_reducible refine chk_opt h0 ?_ | refine chk_opt (and_all hp fun _ => hp) ?_ | refine chk_opt (and_all hp fun _ => rfl) ?_ | refine ite_opt (fun _ => ?_) (fun _ => ?_) | rfl)
def run_s_l04Quadrea : RunP
 | [.v (.int .i64 p), .v (.int .i64 colour), .v (.agg ⟨[.int .i64 a0, .int .i64 a1]⟩), .v (.agg ⟨[.int .i64 b0, .int .i64 b1]⟩), .v (.agg ⟨[.int .i64 c0, .int .i64 c1]⟩)] => some (prB p, enc_i (s_l04Quadrea p colour (a0, a1) (b0, b1) (c0, c1)))
 | _ => none
theorem sound_s_l04Quadrea : Sound prog 232 run_s_l04Quadrea := by
 refine sound_1 de_i SO_s_l04Quadrea (by kernel_rfl) func232 ntmps232 rfl (by kernel_rfl) fun q r E => ?_
 unfold run_s_l04Quadrea at E
 split at E
 ·obtain ⟨hp, rfl⟩ := so2 E
  rename_i p colour a0 a1 b0 b1 c0 c1
  exact ⟨_, _, rfl, (eq_s_l04Quadrea p colour (a0, a1) (b0, b1) (c0, c1)).trans (tot_s_l04Quadrea p colour (a0, a1) (b0, b1) (c0, c1) hp)⟩
 ·cases E

def S_s_QuadreaOf : Sums := ⟨tblS [(185, run_s_l04Code), (232, run_s_l04Quadrea)], tblM [], false⟩
theorem SO_s_QuadreaOf : SumsOK prog S_s_QuadreaOf := ⟨tblS_ok ⟨⟨call185, sound_s_l04Code⟩, ⟨call232, sound_s_l04Quadrea⟩, ⟨⟩⟩, tM⟩
def Fo_s_QuadreaOf (p colour : Int) (a b c : P2) : Option (Int × Int) :=
 (if ((s_l04Code p colour a b c) != 0) = true then some (0, (s_l04Code p colour a b c)) else (if (prB p) = true then some ((s_l04Quadrea p colour a b c), 0) else none))
theorem eq_s_QuadreaOf (p colour : Int) (a b c : P2) : eT S_s_QuadreaOf 194 28 dec_i_i [pI p, pI colour, pA a, pA b, pA c] = Fo_s_QuadreaOf p colour a b c := by
 kernel_rfl
def s_QuadreaOf (p colour : Int) (a b c : P2) : Int × Int :=
 (if ((s_l04Code p colour a b c) != 0) = true then (0, (s_l04Code p colour a b c)) else ((s_l04Quadrea p colour a b c), 0))
theorem tot_s_QuadreaOf (p colour : Int) (a b c : P2) : Fo_s_QuadreaOf p colour a b c = some (s_QuadreaOf p colour a b c) := by
 unfold Fo_s_QuadreaOf s_QuadreaOf
 (try simp only [wI_eq])
 repeat' (first | with_reducible rfl | refine chk_opt (by (first | (with_reducible assumption) | (with_reducible exact l04Code_prB ‹_›) | (with_reducible exact l04Code_prB0 ‹_›))) ?_ | refine ite_opt (fun _ => ?_) (fun _ => ?_) | rfl)
def run_s_QuadreaOf : RunP
 | [.v (.int .i64 p), .v (.int .i64 colour), .v (.agg ⟨[.int .i64 a0, .int .i64 a1]⟩), .v (.agg ⟨[.int .i64 b0, .int .i64 b1]⟩), .v (.agg ⟨[.int .i64 c0, .int .i64 c1]⟩)] => some (true, enc_i_i (s_QuadreaOf p colour (a0, a1) (b0, b1) (c0, c1)))
 | _ => none
theorem sound_s_QuadreaOf : Sound prog 194 run_s_QuadreaOf := by
 refine sound_1 de_i_i SO_s_QuadreaOf (by kernel_rfl) func194 ntmps194 rfl (by kernel_rfl) fun q r E => ?_
 unfold run_s_QuadreaOf at E
 split at E
 ·obtain ⟨hp, rfl⟩ := so2 E
  rename_i p colour a0 a1 b0 b1 c0 c1
  exact ⟨_, _, rfl, (eq_s_QuadreaOf p colour (a0, a1) (b0, b1) (c0, c1)).trans (tot_s_QuadreaOf p colour (a0, a1) (b0, b1) (c0, c1))⟩
 ·cases E

def S_i_CentroidOf : Sums := ⟨tblS [(115, run_i_triangle), (137, run_i_divide)], tblM [], false⟩
theorem SO_i_CentroidOf : SumsOK prog S_i_CentroidOf := ⟨tblS_ok ⟨⟨call115, sound_i_triangle⟩, ⟨call137, sound_i_divide⟩, ⟨⟩⟩, tM⟩
def Fo_i_CentroidOf (p : Int) (a b c : P2) : Option ((Int × Int) × Int) :=
 (if ((i_triangle p 0 a b c) != 0) = true then some ((0, 0), (i_triangle p 0 a b c)) else (if (p == 3) = true then some ((0, 0), 5) else (if (prB p) = true then (if (prB p) = true then some (((i_divide p (wI ((wI (a.1 + b.1)) + c.1)) 3), (i_divide p (wI ((wI (a.2 + b.2)) + c.2)) 3)), 0) else none) else none)))
theorem eq_i_CentroidOf (p : Int) (a b c : P2) : eT S_i_CentroidOf 79 44 dec_a2_i [pI p, pA a, pA b, pA c] = Fo_i_CentroidOf p a b c := by
 kernel_rfl
def i_CentroidOf (p : Int) (a b c : P2) : (Int × Int) × Int :=
 (if ((i_triangle p 0 a b c) != 0) = true then ((0, 0), (i_triangle p 0 a b c)) else (if (p == 3) = true then ((0, 0), 5) else (((i_divide p (wrap64 ((wrap64 (a.1 + b.1)) + c.1)) 3), (i_divide p (wrap64 ((wrap64 (a.2 + b.2)) + c.2)) 3)), 0)))
theorem tot_i_CentroidOf (p : Int) (a b c : P2) : Fo_i_CentroidOf p a b c = some (i_CentroidOf p a b c) := by
 unfold Fo_i_CentroidOf i_CentroidOf
 (try simp only [wI_eq])
 repeat' (first | with_reducible rfl | refine chk_opt (by (first | (with_reducible assumption) | (with_reducible exact triangle_prB ‹_›) | (with_reducible exact triangle_prB0 ‹_›))) ?_ | refine ite_opt (fun _ => ?_) (fun _ => ?_) | rfl)
def run_i_CentroidOf : RunP
 | [.v (.int .i64 p), .v (.agg ⟨[.int .i64 a0, .int .i64 a1]⟩), .v (.agg ⟨[.int .i64 b0, .int .i64 b1]⟩), .v (.agg ⟨[.int .i64 c0, .int .i64 c1]⟩)] => some (true, enc_a2_i (i_CentroidOf p (a0, a1) (b0, b1) (c0, c1)))
 | _ => none
theorem sound_i_CentroidOf : Sound prog 79 run_i_CentroidOf := by
 refine sound_1 de_a2_i SO_i_CentroidOf (by kernel_rfl) func79 ntmps79 rfl (by kernel_rfl) fun q r E => ?_
 unfold run_i_CentroidOf at E
 split at E
 ·obtain ⟨hp, rfl⟩ := so2 E
  rename_i p a0 a1 b0 b1 c0 c1
  exact ⟨_, _, rfl, (eq_i_CentroidOf p (a0, a1) (b0, b1) (c0, c1)).trans (tot_i_CentroidOf p (a0, a1) (b0, b1) (c0, c1))⟩
 ·cases E

def S_s_CentroidOf : Sums := ⟨tblS [(185, run_s_l04Code), (233, run_s_l01Inverse), (203, run_s_l01Plus), (204, run_s_l01Times)], tblM [], false⟩
theorem SO_s_CentroidOf : SumsOK prog S_s_CentroidOf := ⟨tblS_ok ⟨⟨call185, sound_s_l04Code⟩, ⟨call233, sound_s_l01Inverse⟩, ⟨call203, sound_s_l01Plus⟩, ⟨call204, sound_s_l01Times⟩, ⟨⟩⟩, tM⟩
def Fo_s_CentroidOf (p : Int) (a b c : P2) : Option ((Int × Int) × Int) :=
 (if ((s_l04Code p 0 a b c) == 0) = true then (if (p == 3) = true then some ((0, 0), 5) else (if ((s_l04Code p 0 a b c) != 0) = true then some ((0, 0), (s_l04Code p 0 a b c)) else (if (!(p == 0)) = true then (if (prB p) = true then (if (prB p) = true then (if (prB p) = true then (if (prB p) = true then some ((s_l01Times p (s_l01Inverse ((3 : Int).tmod p) p) (s_l01Plus p a (s_l01Plus p b c))), 0) else none) else none) else none) else none) else none))) else (if ((s_l04Code p 0 a b c) != 0) = true then some ((0, 0), (s_l04Code p 0 a b c)) else (if (!(p == 0)) = true then (if (prB p) = true then (if (prB p) = true then (if (prB p) = true then (if (prB p) = true then some ((s_l01Times p (s_l01Inverse ((3 : Int).tmod p) p) (s_l01Plus p a (s_l01Plus p b c))), 0) else none) else none) else none) else none) else none)))
theorem eq_s_CentroidOf (p : Int) (a b c : P2) : eT S_s_CentroidOf 195 39 dec_a2_i [pI p, pA a, pA b, pA c] = Fo_s_CentroidOf p a b c := by
 kernel_rfl
def s_CentroidOf (p : Int) (a b c : P2) : (Int × Int) × Int :=
 (if ((s_l04Code p 0 a b c) != 0) = true then ((0, 0), (s_l04Code p 0 a b c)) else (if (p == 3) = true then ((0, 0), 5) else ((s_l01Times p (s_l01Inverse ((3 : Int).tmod p) p) (s_l01Plus p a (s_l01Plus p b c))), 0)))
theorem tot_s_CentroidOf (p : Int) (a b c : P2) : Fo_s_CentroidOf p a b c = some (s_CentroidOf p a b c) := by
 unfold Fo_s_CentroidOf s_CentroidOf
 by_cases h : s_l04Code p 0 a b c = 0
 ·have hp : prB p = true := l04Code_prB0 (by rw [h]; rfl)
  have h0 := prB_ne hp
  rw [if_pos (by rw [h]; rfl), if_neg (c := (s_l04Code p 0 a b c != 0) = true) (by rw [h]; decide)]
  by_cases h3 : (p == 3) = true
  ·rw [if_pos h3, if_pos h3]
   simp [h]
  ·rw [if_neg h3, if_neg h3]
   simp [h0, hp, h]
 ·rw [if_neg (fun q => h (eq_of_beq q)), if_pos (bne_iff_ne.2 h), if_pos (bne_iff_ne.2 h)]
def run_s_CentroidOf : RunP
 | [.v (.int .i64 p), .v (.agg ⟨[.int .i64 a0, .int .i64 a1]⟩), .v (.agg ⟨[.int .i64 b0, .int .i64 b1]⟩), .v (.agg ⟨[.int .i64 c0, .int .i64 c1]⟩)] => some (true, enc_a2_i (s_CentroidOf p (a0, a1) (b0, b1) (c0, c1)))
 | _ => none
theorem sound_s_CentroidOf : Sound prog 195 run_s_CentroidOf := by
 refine sound_1 de_a2_i SO_s_CentroidOf (by kernel_rfl) func195 ntmps195 rfl (by kernel_rfl) fun q r E => ?_
 unfold run_s_CentroidOf at E
 split at E
 ·obtain ⟨hp, rfl⟩ := so2 E
  rename_i p a0 a1 b0 b1 c0 c1
  exact ⟨_, _, rfl, (eq_s_CentroidOf p (a0, a1) (b0, b1) (c0, c1)).trans (tot_s_CentroidOf p (a0, a1) (b0, b1) (c0, c1))⟩
 ·cases E

def S_i_MedianOf : Sums := ⟨tblS [(115, run_i_triangle), (108, run_i_midpoint), (110, run_i_lineThrough)], tblM [], false⟩
theorem SO_i_MedianOf : SumsOK prog S_i_MedianOf := ⟨tblS_ok ⟨⟨call115, sound_i_triangle⟩, ⟨call108, sound_i_midpoint⟩, ⟨call110, sound_i_lineThrough⟩, ⟨⟩⟩, tM⟩
def Fo_i_MedianOf (p : Int) (a b c : P2) : Option ((Int × Int × Int) × Int) :=
 (if ((i_triangle p 0 a b c) != 0) = true then some ((0, 0, 0), (i_triangle p 0 a b c)) else (if (prB p) = true then (if (prB p) = true then some ((i_lineThrough p a (i_midpoint p b c)), 0) else none) else none))
theorem eq_i_MedianOf (p : Int) (a b c : P2) : eT S_i_MedianOf 80 27 dec_a3_i [pI p, pA a, pA b, pA c] = Fo_i_MedianOf p a b c := by
 kernel_rfl
def i_MedianOf (p : Int) (a b c : P2) : (Int × Int × Int) × Int :=
 (if ((i_triangle p 0 a b c) != 0) = true then ((0, 0, 0), (i_triangle p 0 a b c)) else ((i_lineThrough p a (i_midpoint p b c)), 0))
theorem tot_i_MedianOf (p : Int) (a b c : P2) : Fo_i_MedianOf p a b c = some (i_MedianOf p a b c) := by
 unfold Fo_i_MedianOf i_MedianOf
 (try simp only [wI_eq])
 repeat' (first | with_reducible rfl | refine chk_opt (by (first | (with_reducible assumption) | (with_reducible exact triangle_prB ‹_›) | (with_reducible exact triangle_prB0 ‹_›))) ?_ | refine ite_opt (fun _ => ?_) (fun _ => ?_) | rfl)
def run_i_MedianOf : RunP
 | [.v (.int .i64 p), .v (.agg ⟨[.int .i64 a0, .int .i64 a1]⟩), .v (.agg ⟨[.int .i64 b0, .int .i64 b1]⟩), .v (.agg ⟨[.int .i64 c0, .int .i64 c1]⟩)] => some (true, enc_a3_i (i_MedianOf p (a0, a1) (b0, b1) (c0, c1)))
 | _ => none
theorem sound_i_MedianOf : Sound prog 80 run_i_MedianOf := by
 refine sound_1 de_a3_i SO_i_MedianOf (by kernel_rfl) func80 ntmps80 rfl (by kernel_rfl) fun q r E => ?_
 unfold run_i_MedianOf at E
 split at E
 ·obtain ⟨hp, rfl⟩ := so2 E
  rename_i p a0 a1 b0 b1 c0 c1
  exact ⟨_, _, rfl, (eq_i_MedianOf p (a0, a1) (b0, b1) (c0, c1)).trans (tot_i_MedianOf p (a0, a1) (b0, b1) (c0, c1))⟩
 ·cases E

def S_s_MedianOf : Sums := ⟨tblS [(185, run_s_l04Code), (180, run_s_l01Middle), (181, run_s_l01Through)], tblM [], false⟩
theorem SO_s_MedianOf : SumsOK prog S_s_MedianOf := ⟨tblS_ok ⟨⟨call185, sound_s_l04Code⟩, ⟨call180, sound_s_l01Middle⟩, ⟨call181, sound_s_l01Through⟩, ⟨⟩⟩, tM⟩
def Fo_s_MedianOf (p : Int) (a b c : P2) : Option ((Int × Int × Int) × Int) :=
 (if ((s_l04Code p 0 a b c) != 0) = true then some ((0, 0, 0), (s_l04Code p 0 a b c)) else (if (prB p) = true then (if (prB p) = true then some ((s_l01Through p a (s_l01Middle p b c)), 0) else none) else none))
theorem eq_s_MedianOf (p : Int) (a b c : P2) : eT S_s_MedianOf 236 27 dec_a3_i [pI p, pA a, pA b, pA c] = Fo_s_MedianOf p a b c := by
 kernel_rfl
def s_MedianOf (p : Int) (a b c : P2) : (Int × Int × Int) × Int :=
 (if ((s_l04Code p 0 a b c) != 0) = true then ((0, 0, 0), (s_l04Code p 0 a b c)) else ((s_l01Through p a (s_l01Middle p b c)), 0))
theorem tot_s_MedianOf (p : Int) (a b c : P2) : Fo_s_MedianOf p a b c = some (s_MedianOf p a b c) := by
 unfold Fo_s_MedianOf s_MedianOf
 (try simp only [wI_eq])
 repeat' (first | with_reducible rfl | refine chk_opt (by (first | (with_reducible assumption) | (with_reducible exact l04Code_prB ‹_›) | (with_reducible exact l04Code_prB0 ‹_›))) ?_ | refine ite_opt (fun _ => ?_) (fun _ => ?_) | rfl)
def run_s_MedianOf : RunP
 | [.v (.int .i64 p), .v (.agg ⟨[.int .i64 a0, .int .i64 a1]⟩), .v (.agg ⟨[.int .i64 b0, .int .i64 b1]⟩), .v (.agg ⟨[.int .i64 c0, .int .i64 c1]⟩)] => some (true, enc_a3_i (s_MedianOf p (a0, a1) (b0, b1) (c0, c1)))
 | _ => none
theorem sound_s_MedianOf : Sound prog 236 run_s_MedianOf := by
 refine sound_1 de_a3_i SO_s_MedianOf (by kernel_rfl) func236 ntmps236 rfl (by kernel_rfl) fun q r E => ?_
 unfold run_s_MedianOf at E
 split at E
 ·obtain ⟨hp, rfl⟩ := so2 E
  rename_i p a0 a1 b0 b1 c0 c1
  exact ⟨_, _, rfl, (eq_s_MedianOf p (a0, a1) (b0, b1) (c0, c1)).trans (tot_s_MedianOf p (a0, a1) (b0, b1) (c0, c1))⟩
 ·cases E

def S_i_circleThrough : Sums := ⟨tblS [(116, run_i_circumcentre), (72, run_i_quadrance)], tblM [], false⟩
theorem SO_i_circleThrough : SumsOK prog S_i_circleThrough := ⟨tblS_ok ⟨⟨call116, sound_i_circumcentre⟩, ⟨call72, sound_i_quadrance⟩, ⟨⟩⟩, tM⟩
def Fo_i_circleThrough (p colour : Int) (a b c : P2) : Option (Int × Int × Int) :=
 (if (prB p) = true then (if (prB p) = true then some ((i_circumcentre p colour a b c).1, (i_circumcentre p colour a b c).2, (i_quadrance p colour (i_circumcentre p colour a b c) a)) else none) else none)
theorem eq_i_circleThrough (p colour : Int) (a b c : P2) : eT S_i_circleThrough 139 25 dec_a3 [pI p, pI colour, pA a, pA b, pA c] = Fo_i_circleThrough p colour a b c := by
 kernel_rfl
def i_circleThrough (p colour : Int) (a b c : P2) : Int × Int × Int :=
 ((i_circumcentre p colour a b c).1, (i_circumcentre p colour a b c).2, (i_quadrance p colour (i_circumcentre p colour a b c) a))
theorem tot_i_circleThrough (p colour : Int) (a b c : P2) (hp : (prB p) = true) : Fo_i_circleThrough p colour a b c = some (i_circleThrough p colour a b c) := by
 try have h0 := prB_ne hp
 unfold Fo_i_circleThrough i_circleThrough
 (try simp only [wI_eq])
 repeat' (first | with_reducible rfl | with_reducible refine chk_opt hp ?_ | with_reducible refine chk_opt h0 ?_ | refine chk_opt (and_all hp fun _ => hp) ?_ | refine chk_opt (and_all hp fun _ => rfl) ?_ | refine ite_opt (fun _ => ?_) (fun _ => ?_) | rfl)
def run_i_circleThrough : RunP
 | [.v (.int .i64 p), .v (.int .i64 colour), .v (.agg ⟨[.int .i64 a0, .int .i64 a1]⟩), .v (.agg ⟨[.int .i64 b0, .int .i64 b1]⟩), .v (.agg ⟨[.int .i64 c0, .int .i64 c1]⟩)] => some (prB p, enc_a3 (i_circleThrough p colour (a0, a1) (b0, b1) (c0, c1)))
 | _ => none
theorem sound_i_circleThrough : Sound prog 139 run_i_circleThrough := by
 refine sound_1 de_a3 SO_i_circleThrough (by kernel_rfl) func139 ntmps139 rfl (by kernel_rfl) fun q r E => ?_
 unfold run_i_circleThrough at E
 split at E
 ·obtain ⟨hp, rfl⟩ := so2 E
  rename_i p colour a0 a1 b0 b1 c0 c1
  exact ⟨_, _, rfl, (eq_i_circleThrough p colour (a0, a1) (b0, b1) (c0, c1)).trans (tot_i_circleThrough p colour (a0, a1) (b0, b1) (c0, c1) hp)⟩
 ·cases E

def S_i_CircleThrough : Sums := ⟨tblS [(115, run_i_triangle), (139, run_i_circleThrough)], tblM [], false⟩
theorem SO_i_CircleThrough : SumsOK prog S_i_CircleThrough := ⟨tblS_ok ⟨⟨call115, sound_i_triangle⟩, ⟨call139, sound_i_circleThrough⟩, ⟨⟩⟩, tM⟩
def Fo_i_CircleThrough (p colour : Int) (a b c : P2) : Option ((Int × Int × Int) × Int) :=
 (if ((i_triangle p colour a b c) != 0) = true then some ((0, 0, 0), (i_triangle p colour a b c)) else (if (prB p) = true then some ((i_circleThrough p colour a b c), 0) else none))
theorem eq_i_CircleThrough (p colour : Int) (a b c : P2) : eT S_i_CircleThrough 84 29 dec_a3_i [pI p, pI colour, pA a, pA b, pA c] = Fo_i_CircleThrough p colour a b c := by
 kernel_rfl
def i_CircleThrough (p colour : Int) (a b c : P2) : (Int × Int × Int) × Int :=
 (if ((i_triangle p colour a b c) != 0) = true then ((0, 0, 0), (i_triangle p colour a b c)) else ((i_circleThrough p colour a b c), 0))
theorem tot_i_CircleThrough (p colour : Int) (a b c : P2) : Fo_i_CircleThrough p colour a b c = some (i_CircleThrough p colour a b c) := by
 unfold Fo_i_CircleThrough i_CircleThrough
 (try simp only [wI_eq])
 repeat' (first | with_reducible rfl | refine chk_opt (by (first | (with_reducible assumption) | (with_reducible exact triangle_prB ‹_›) | (with_reducible exact triangle_prB0 ‹_›))) ?_ | refine ite_opt (fun _ => ?_) (fun _ => ?_) | rfl)
def run_i_CircleThrough : RunP
 | [.v (.int .i64 p), .v (.int .i64 colour), .v (.agg ⟨[.int .i64 a0, .int .i64 a1]⟩), .v (.agg ⟨[.int .i64 b0, .int .i64 b1]⟩), .v (.agg ⟨[.int .i64 c0, .int .i64 c1]⟩)] => some (true, enc_a3_i (i_CircleThrough p colour (a0, a1) (b0, b1) (c0, c1)))
 | _ => none
theorem sound_i_CircleThrough : Sound prog 84 run_i_CircleThrough := by
 refine sound_1 de_a3_i SO_i_CircleThrough (by kernel_rfl) func84 ntmps84 rfl (by kernel_rfl) fun q r E => ?_
 unfold run_i_CircleThrough at E
 split at E
 ·obtain ⟨hp, rfl⟩ := so2 E
  rename_i p colour a0 a1 b0 b1 c0 c1
  exact ⟨_, _, rfl, (eq_i_CircleThrough p colour (a0, a1) (b0, b1) (c0, c1)).trans (tot_i_CircleThrough p colour (a0, a1) (b0, b1) (c0, c1))⟩
 ·cases E

def S_s_l06Through : Sums := ⟨tblS [(186, run_s_l04Circumcentre), (190, run_s_l02Quadrance)], tblM [], false⟩
theorem SO_s_l06Through : SumsOK prog S_s_l06Through := ⟨tblS_ok ⟨⟨call186, sound_s_l04Circumcentre⟩, ⟨call190, sound_s_l02Quadrance⟩, ⟨⟩⟩, tM⟩
def Fo_s_l06Through (p colour : Int) (a b c : P2) : Option (Int × Int × Int) :=
 (if (prB p) = true then (if (prB p) = true then some ((s_l04Circumcentre p colour a b c).1, (s_l04Circumcentre p colour a b c).2, (s_l02Quadrance p colour (s_l04Circumcentre p colour a b c) a)) else none) else none)
theorem eq_s_l06Through (p colour : Int) (a b c : P2) : eT S_s_l06Through 234 25 dec_a3 [pI p, pI colour, pA a, pA b, pA c] = Fo_s_l06Through p colour a b c := by
 kernel_rfl
def s_l06Through (p colour : Int) (a b c : P2) : Int × Int × Int :=
 ((s_l04Circumcentre p colour a b c).1, (s_l04Circumcentre p colour a b c).2, (s_l02Quadrance p colour (s_l04Circumcentre p colour a b c) a))
theorem tot_s_l06Through (p colour : Int) (a b c : P2) (hp : (prB p) = true) : Fo_s_l06Through p colour a b c = some (s_l06Through p colour a b c) := by
 try have h0 := prB_ne hp
 unfold Fo_s_l06Through s_l06Through
 (try simp only [wI_eq])
 repeat' (first | with_reducible rfl | with_reducible refine chk_opt hp ?_ | with_reducible refine chk_opt h0 ?_ | refine chk_opt (and_all hp fun _ => hp) ?_ | refine chk_opt (and_all hp fun _ => rfl) ?_ | refine ite_opt (fun _ => ?_) (fun _ => ?_) | rfl)
def run_s_l06Through : RunP
 | [.v (.int .i64 p), .v (.int .i64 colour), .v (.agg ⟨[.int .i64 a0, .int .i64 a1]⟩), .v (.agg ⟨[.int .i64 b0, .int .i64 b1]⟩), .v (.agg ⟨[.int .i64 c0, .int .i64 c1]⟩)] => some (prB p, enc_a3 (s_l06Through p colour (a0, a1) (b0, b1) (c0, c1)))
 | _ => none
theorem sound_s_l06Through : Sound prog 234 run_s_l06Through := by
 refine sound_1 de_a3 SO_s_l06Through (by kernel_rfl) func234 ntmps234 rfl (by kernel_rfl) fun q r E => ?_
 unfold run_s_l06Through at E
 split at E
 ·obtain ⟨hp, rfl⟩ := so2 E
  rename_i p colour a0 a1 b0 b1 c0 c1
  exact ⟨_, _, rfl, (eq_s_l06Through p colour (a0, a1) (b0, b1) (c0, c1)).trans (tot_s_l06Through p colour (a0, a1) (b0, b1) (c0, c1) hp)⟩
 ·cases E

def S_s_CircleThrough : Sums := ⟨tblS [(185, run_s_l04Code), (234, run_s_l06Through)], tblM [], false⟩
theorem SO_s_CircleThrough : SumsOK prog S_s_CircleThrough := ⟨tblS_ok ⟨⟨call185, sound_s_l04Code⟩, ⟨call234, sound_s_l06Through⟩, ⟨⟩⟩, tM⟩
def Fo_s_CircleThrough (p colour : Int) (a b c : P2) : Option ((Int × Int × Int) × Int) :=
 (if ((s_l04Code p colour a b c) != 0) = true then some ((0, 0, 0), (s_l04Code p colour a b c)) else (if (prB p) = true then some ((s_l06Through p colour a b c), 0) else none))
theorem eq_s_CircleThrough (p colour : Int) (a b c : P2) : eT S_s_CircleThrough 196 29 dec_a3_i [pI p, pI colour, pA a, pA b, pA c] = Fo_s_CircleThrough p colour a b c := by
 kernel_rfl
def s_CircleThrough (p colour : Int) (a b c : P2) : (Int × Int × Int) × Int :=
 (if ((s_l04Code p colour a b c) != 0) = true then ((0, 0, 0), (s_l04Code p colour a b c)) else ((s_l06Through p colour a b c), 0))
theorem tot_s_CircleThrough (p colour : Int) (a b c : P2) : Fo_s_CircleThrough p colour a b c = some (s_CircleThrough p colour a b c) := by
 unfold Fo_s_CircleThrough s_CircleThrough
 (try simp only [wI_eq])
 repeat' (first | with_reducible rfl | refine chk_opt (by (first | (with_reducible assumption) | (with_reducible exact l04Code_prB ‹_›) | (with_reducible exact l04Code_prB0 ‹_›))) ?_ | refine ite_opt (fun _ => ?_) (fun _ => ?_) | rfl)
def run_s_CircleThrough : RunP
 | [.v (.int .i64 p), .v (.int .i64 colour), .v (.agg ⟨[.int .i64 a0, .int .i64 a1]⟩), .v (.agg ⟨[.int .i64 b0, .int .i64 b1]⟩), .v (.agg ⟨[.int .i64 c0, .int .i64 c1]⟩)] => some (true, enc_a3_i (s_CircleThrough p colour (a0, a1) (b0, b1) (c0, c1)))
 | _ => none
theorem sound_s_CircleThrough : Sound prog 196 run_s_CircleThrough := by
 refine sound_1 de_a3_i SO_s_CircleThrough (by kernel_rfl) func196 ntmps196 rfl (by kernel_rfl) fun q r E => ?_
 unfold run_s_CircleThrough at E
 split at E
 ·obtain ⟨hp, rfl⟩ := so2 E
  rename_i p colour a0 a1 b0 b1 c0 c1
  exact ⟨_, _, rfl, (eq_s_CircleThrough p colour (a0, a1) (b0, b1) (c0, c1)).trans (tot_s_CircleThrough p colour (a0, a1) (b0, b1) (c0, c1))⟩
 ·cases E

def S_i_omegaPoints : Sums := ⟨tblS [(117, run_i_orthocentre)], tblM [], false⟩
theorem SO_i_omegaPoints : SumsOK prog S_i_omegaPoints := ⟨tblS_ok ⟨⟨call117, sound_i_orthocentre⟩, ⟨⟩⟩, tM⟩
def Fo_i_omegaPoints (p : Int) (a b c : P2) : Option (Nat × List Int) :=
 (if (prB p) = true then (if (prB p) = true then (if (prB p) = true then some (3, [(i_orthocentre p 0 a b c).1, (i_orthocentre p 0 a b c).2, (i_orthocentre p 1 a b c).1, (i_orthocentre p 1 a b c).2, (i_orthocentre p 2 a b c).1, (i_orthocentre p 2 a b c).2]) else none) else none) else none)
theorem eq_i_omegaPoints (p : Int) (a b c : P2) : eT S_i_omegaPoints 141 25 dec_l25_2 [pI p, pA a, pA b, pA c] = Fo_i_omegaPoints p a b c := by
 kernel_rfl
def i_omegaPoints (p : Int) (a b c : P2) : Nat × List Int :=
 (3, [(i_orthocentre p 0 a b c).1, (i_orthocentre p 0 a b c).2, (i_orthocentre p 1 a b c).1, (i_orthocentre p 1 a b c).2, (i_orthocentre p 2 a b c).1, (i_orthocentre p 2 a b c).2])
theorem tot_i_omegaPoints (p : Int) (a b c : P2) (hp : (prB p) = true) : Fo_i_omegaPoints p a b c = some (i_omegaPoints p a b c) := by
 try have h0 := prB_ne hp
 unfold Fo_i_omegaPoints i_omegaPoints
 (try simp only [wI_eq])
 repeat' (first | with_reducible rfl | with_reducible refine chk_opt hp ?_ | with_reducible refine chk_opt h0 ?_ | refine chk_opt (and_all hp fun _ => hp) ?_ | refine chk_opt (and_all hp fun _ => rfl) ?_ | refine ite_opt (fun _ => ?_) (fun _ => ?_) | rfl)
def run_i_omegaPoints : RunP
 | [.v (.int .i64 p), .v (.agg ⟨[.int .i64 a0, .int .i64 a1]⟩), .v (.agg ⟨[.int .i64 b0, .int .i64 b1]⟩), .v (.agg ⟨[.int .i64 c0, .int .i64 c1]⟩)] => some (prB p, enc_l25_2 (i_omegaPoints p (a0, a1) (b0, b1) (c0, c1)))
 | _ => none
theorem sound_i_omegaPoints : Sound prog 141 run_i_omegaPoints := by
 refine sound_1 de_l25_2 SO_i_omegaPoints (by kernel_rfl) func141 ntmps141 rfl (by kernel_rfl) fun q r E => ?_
 unfold run_i_omegaPoints at E
 split at E
 ·obtain ⟨hp, rfl⟩ := so2 E
  rename_i p a0 a1 b0 b1 c0 c1
  exact ⟨_, _, rfl, (eq_i_omegaPoints p (a0, a1) (b0, b1) (c0, c1)).trans (tot_i_omegaPoints p (a0, a1) (b0, b1) (c0, c1) hp)⟩
 ·cases E

def S_i_OmegaPoints : Sums := ⟨tblS [(115, run_i_triangle), (141, run_i_omegaPoints)], tblM [], false⟩
theorem SO_i_OmegaPoints : SumsOK prog S_i_OmegaPoints := ⟨tblS_ok ⟨⟨call115, sound_i_triangle⟩, ⟨call141, sound_i_omegaPoints⟩, ⟨⟩⟩, tM⟩
def Fo_i_OmegaPoints (p : Int) (a b c : P2) : Option ((Nat × List Int) × Int) :=
 (if ((i_triangle p 0 a b c) != 0) = true then some ((0, []), (i_triangle p 0 a b c)) else (if (prB p) = true then some (((i_omegaPoints p a b c).1, (i_omegaPoints p a b c).2), 0) else none))
theorem eq_i_OmegaPoints (p : Int) (a b c : P2) : eT S_i_OmegaPoints 86 24 dec_l25_2_i [pI p, pA a, pA b, pA c] = Fo_i_OmegaPoints p a b c := by
 kernel_rfl
def i_OmegaPoints (p : Int) (a b c : P2) : (Nat × List Int) × Int :=
 (if ((i_triangle p 0 a b c) != 0) = true then ((0, []), (i_triangle p 0 a b c)) else (((i_omegaPoints p a b c).1, (i_omegaPoints p a b c).2), 0))
theorem tot_i_OmegaPoints (p : Int) (a b c : P2) : Fo_i_OmegaPoints p a b c = some (i_OmegaPoints p a b c) := by
 unfold Fo_i_OmegaPoints i_OmegaPoints
 (try simp only [wI_eq])
 repeat' (first | with_reducible rfl | refine chk_opt (by (first | (with_reducible assumption) | (with_reducible exact triangle_prB ‹_›) | (with_reducible exact triangle_prB0 ‹_›))) ?_ | refine ite_opt (fun _ => ?_) (fun _ => ?_) | rfl)
def run_i_OmegaPoints : RunP
 | [.v (.int .i64 p), .v (.agg ⟨[.int .i64 a0, .int .i64 a1]⟩), .v (.agg ⟨[.int .i64 b0, .int .i64 b1]⟩), .v (.agg ⟨[.int .i64 c0, .int .i64 c1]⟩)] => some (true, enc_l25_2_i (i_OmegaPoints p (a0, a1) (b0, b1) (c0, c1)))
 | _ => none
theorem sound_i_OmegaPoints : Sound prog 86 run_i_OmegaPoints := by
 refine sound_1 de_l25_2_i SO_i_OmegaPoints (by kernel_rfl) func86 ntmps86 rfl (by kernel_rfl) fun q r E => ?_
 unfold run_i_OmegaPoints at E
 split at E
 ·obtain ⟨hp, rfl⟩ := so2 E
  rename_i p a0 a1 b0 b1 c0 c1
  exact ⟨_, _, rfl, (eq_i_OmegaPoints p (a0, a1) (b0, b1) (c0, c1)).trans (tot_i_OmegaPoints p (a0, a1) (b0, b1) (c0, c1))⟩
 ·cases E

def S_s_l10Omega : Sums := ⟨tblS [(187, run_s_l04Orthocentre)], tblM [], false⟩
theorem SO_s_l10Omega : SumsOK prog S_s_l10Omega := ⟨tblS_ok ⟨⟨call187, sound_s_l04Orthocentre⟩, ⟨⟩⟩, tM⟩
def Fo_s_l10Omega (p : Int) (a b c : P2) : Option (Nat × List Int) :=
 (if (prB p) = true then (if (prB p) = true then (if (prB p) = true then some (3, [(s_l04Orthocentre p 0 a b c).1, (s_l04Orthocentre p 0 a b c).2, (s_l04Orthocentre p 1 a b c).1, (s_l04Orthocentre p 1 a b c).2, (s_l04Orthocentre p 2 a b c).1, (s_l04Orthocentre p 2 a b c).2]) else none) else none) else none)
theorem eq_s_l10Omega (p : Int) (a b c : P2) : eT S_s_l10Omega 235 26 dec_l25_2 [pI p, pA a, pA b, pA c] = Fo_s_l10Omega p a b c := by
 kernel_rfl
def s_l10Omega (p : Int) (a b c : P2) : Nat × List Int :=
 (3, [(s_l04Orthocentre p 0 a b c).1, (s_l04Orthocentre p 0 a b c).2, (s_l04Orthocentre p 1 a b c).1, (s_l04Orthocentre p 1 a b c).2, (s_l04Orthocentre p 2 a b c).1, (s_l04Orthocentre p 2 a b c).2])
theorem tot_s_l10Omega (p : Int) (a b c : P2) (hp : (prB p) = true) : Fo_s_l10Omega p a b c = some (s_l10Omega p a b c) := by
 try have h0 := prB_ne hp
 unfold Fo_s_l10Omega s_l10Omega
 (try simp only [wI_eq])
 repeat' (first | with_reducible rfl | with_reducible refine chk_opt hp ?_ | with_reducible refine chk_opt h0 ?_ | refine chk_opt (and_all hp fun _ => hp) ?_ | refine chk_opt (and_all hp fun _ => rfl) ?_ | refine ite_opt (fun _ => ?_) (fun _ => ?_) | rfl)
def run_s_l10Omega : RunP
 | [.v (.int .i64 p), .v (.agg ⟨[.int .i64 a0, .int .i64 a1]⟩), .v (.agg ⟨[.int .i64 b0, .int .i64 b1]⟩), .v (.agg ⟨[.int .i64 c0, .int .i64 c1]⟩)] => some (prB p, enc_l25_2 (s_l10Omega p (a0, a1) (b0, b1) (c0, c1)))
 | _ => none
theorem sound_s_l10Omega : Sound prog 235 run_s_l10Omega := by
 refine sound_1 de_l25_2 SO_s_l10Omega (by kernel_rfl) func235 ntmps235 rfl (by kernel_rfl) fun q r E => ?_
 unfold run_s_l10Omega at E
 split at E
 ·obtain ⟨hp, rfl⟩ := so2 E
  rename_i p a0 a1 b0 b1 c0 c1
  exact ⟨_, _, rfl, (eq_s_l10Omega p (a0, a1) (b0, b1) (c0, c1)).trans (tot_s_l10Omega p (a0, a1) (b0, b1) (c0, c1) hp)⟩
 ·cases E

def S_s_OmegaPoints : Sums := ⟨tblS [(185, run_s_l04Code), (235, run_s_l10Omega)], tblM [], false⟩
theorem SO_s_OmegaPoints : SumsOK prog S_s_OmegaPoints := ⟨tblS_ok ⟨⟨call185, sound_s_l04Code⟩, ⟨call235, sound_s_l10Omega⟩, ⟨⟩⟩, tM⟩
def Fo_s_OmegaPoints (p : Int) (a b c : P2) : Option ((Nat × List Int) × Int) :=
 (if ((s_l04Code p 0 a b c) != 0) = true then some ((0, []), (s_l04Code p 0 a b c)) else (if (prB p) = true then some (((s_l10Omega p a b c).1, (s_l10Omega p a b c).2), 0) else none))
theorem eq_s_OmegaPoints (p : Int) (a b c : P2) : eT S_s_OmegaPoints 198 24 dec_l25_2_i [pI p, pA a, pA b, pA c] = Fo_s_OmegaPoints p a b c := by
 kernel_rfl
def s_OmegaPoints (p : Int) (a b c : P2) : (Nat × List Int) × Int :=
 (if ((s_l04Code p 0 a b c) != 0) = true then ((0, []), (s_l04Code p 0 a b c)) else (((s_l10Omega p a b c).1, (s_l10Omega p a b c).2), 0))
theorem tot_s_OmegaPoints (p : Int) (a b c : P2) : Fo_s_OmegaPoints p a b c = some (s_OmegaPoints p a b c) := by
 unfold Fo_s_OmegaPoints s_OmegaPoints
 (try simp only [wI_eq])
 repeat' (first | with_reducible rfl | refine chk_opt (by (first | (with_reducible assumption) | (with_reducible exact l04Code_prB ‹_›) | (with_reducible exact l04Code_prB0 ‹_›))) ?_ | refine ite_opt (fun _ => ?_) (fun _ => ?_) | rfl)
def run_s_OmegaPoints : RunP
 | [.v (.int .i64 p), .v (.agg ⟨[.int .i64 a0, .int .i64 a1]⟩), .v (.agg ⟨[.int .i64 b0, .int .i64 b1]⟩), .v (.agg ⟨[.int .i64 c0, .int .i64 c1]⟩)] => some (true, enc_l25_2_i (s_OmegaPoints p (a0, a1) (b0, b1) (c0, c1)))
 | _ => none
theorem sound_s_OmegaPoints : Sound prog 198 run_s_OmegaPoints := by
 refine sound_1 de_l25_2_i SO_s_OmegaPoints (by kernel_rfl) func198 ntmps198 rfl (by kernel_rfl) fun q r E => ?_
 unfold run_s_OmegaPoints at E
 split at E
 ·obtain ⟨hp, rfl⟩ := so2 E
  rename_i p a0 a1 b0 b1 c0 c1
  exact ⟨_, _, rfl, (eq_s_OmegaPoints p (a0, a1) (b0, b1) (c0, c1)).trans (tot_s_OmegaPoints p (a0, a1) (b0, b1) (c0, c1))⟩
 ·cases E

def S_i_RightColours_c1 : Sums := ⟨tblS [(37, run_i_arePoints)], tblM [], false⟩
theorem SO_i_RightColours_c1 : SumsOK prog S_i_RightColours_c1 := ⟨tblS_ok ⟨⟨call37, sound_i_arePoints⟩, ⟨⟩⟩, tM⟩
def Fo_i_RightColours_c1 (c0 : Int) (c1 c2 c3 : P2) : Option (Bool) :=
 some (i_arePoints c0 [c1, c2, c3])
theorem eq_i_RightColours_c1 (c0 : Int) (c1 c2 c3 : P2) : eT S_i_RightColours_c1 142 11 dec_b [.p [.int .i64 c0], .p [.int .i64 c1.1, .int .i64 c1.2], .p [.int .i64 c2.1, .int .i64 c2.2], .p [.int .i64 c3.1, .int .i64 c3.2]] = Fo_i_RightColours_c1 c0 c1 c2 c3 := by
 kernel_rfl
def i_RightColours_c1 (c0 : Int) (c1 c2 c3 : P2) : Bool :=
 (i_arePoints c0 [c1, c2, c3])
theorem tot_i_RightColours_c1 (c0 : Int) (c1 c2 c3 : P2) : Fo_i_RightColours_c1 c0 c1 c2 c3 = some (i_RightColours_c1 c0 c1 c2 c3) := by
 unfold Fo_i_RightColours_c1 i_RightColours_c1
 (try simp only [wI_eq])
 repeat' (first | with_reducible rfl | refine ite_opt (fun _ => ?_) (fun _ => ?_) | rfl)
def run_i_RightColours_c1 : RunP
 | [.p [.int .i64 c0], .p [.int .i64 c10, .int .i64 c11], .p [.int .i64 c20, .int .i64 c21], .p [.int .i64 c30, .int .i64 c31]] => some (true, enc_b (i_RightColours_c1 c0 (c10, c11) (c20, c21) (c30, c31)))
 | _ => none
theorem sound_i_RightColours_c1 : Sound prog 142 run_i_RightColours_c1 := by
 refine sound_1 de_b SO_i_RightColours_c1 (by kernel_rfl) func142 ntmps142 rfl (by kernel_rfl) fun q r E => ?_
 unfold run_i_RightColours_c1 at E
 split at E
 ·obtain ⟨hp, rfl⟩ := so2 E
  rename_i c0 c10 c11 c20 c21 c30 c31
  exact ⟨_, _, rfl, (eq_i_RightColours_c1 c0 (c10, c11) (c20, c21) (c30, c31)).trans (tot_i_RightColours_c1 c0 (c10, c11) (c20, c21) (c30, c31))⟩
 ·cases E

def S_i_RightColours_c2 : Sums := ⟨tblS [(75, run_i_isRight)], tblM [], false⟩
theorem SO_i_RightColours_c2 : SumsOK prog S_i_RightColours_c2 := ⟨tblS_ok ⟨⟨call75, sound_i_isRight⟩, ⟨⟩⟩, tM⟩
def Fo_i_RightColours_c2 (colour c0 : Int) (c1 c2 c3 : P2) : Option (Bool) :=
 (if (prB c0) = true then some (i_isRight c0 colour c1 c2 c3) else none)
theorem eq_i_RightColours_c2 (colour c0 : Int) (c1 c2 c3 : P2) : eT S_i_RightColours_c2 144 13 dec_b [pI colour, .p [.int .i64 c0], .p [.int .i64 c1.1, .int .i64 c1.2], .p [.int .i64 c2.1, .int .i64 c2.2], .p [.int .i64 c3.1, .int .i64 c3.2]] = Fo_i_RightColours_c2 colour c0 c1 c2 c3 := by
 kernel_rfl
def i_RightColours_c2 (colour c0 : Int) (c1 c2 c3 : P2) : Bool :=
 (i_isRight c0 colour c1 c2 c3)
theorem tot_i_RightColours_c2 (colour c0 : Int) (c1 c2 c3 : P2) (hp : (prB c0) = true) : Fo_i_RightColours_c2 colour c0 c1 c2 c3 = some (i_RightColours_c2 colour c0 c1 c2 c3) := by
 try have h0 := prB_ne hp
 unfold Fo_i_RightColours_c2 i_RightColours_c2
 (try simp only [wI_eq])
 repeat' (first | with_reducible rfl | with_reducible refine chk_opt hp ?_ | with_reducible refine chk_opt h0 ?_ | refine chk_opt (and_all hp fun _ => hp) ?_ | refine chk_opt (and_all hp fun _ => rfl) ?_ | refine ite_opt (fun _ => ?_) (fun _ => ?_) | rfl)
def run_i_RightColours_c2 : RunP
 | [.v (.int .i64 colour), .p [.int .i64 c0], .p [.int .i64 c10, .int .i64 c11], .p [.int .i64 c20, .int .i64 c21], .p [.int .i64 c30, .int .i64 c31]] => some (prB c0, enc_b (i_RightColours_c2 colour c0 (c10, c11) (c20, c21) (c30, c31)))
 | _ => none
theorem sound_i_RightColours_c2 : Sound prog 144 run_i_RightColours_c2 := by
 refine sound_1 de_b SO_i_RightColours_c2 (by kernel_rfl) func144 ntmps144 rfl (by kernel_rfl) fun q r E => ?_
 unfold run_i_RightColours_c2 at E
 split at E
 ·obtain ⟨hp, rfl⟩ := so2 E
  rename_i colour c0 c10 c11 c20 c21 c30 c31
  exact ⟨_, _, rfl, (eq_i_RightColours_c2 colour c0 (c10, c11) (c20, c21) (c30, c31)).trans (tot_i_RightColours_c2 colour c0 (c10, c11) (c20, c21) (c30, c31) hp)⟩
 ·cases E

def S_i_coloursWith : Sums := ⟨tblS [], tblM [], false⟩
theorem SO_i_coloursWith : SumsOK prog S_i_coloursWith := ⟨tblS_ok ⟨⟩, tM⟩
def Fo_i_coloursWith (holdsk holdsh : Int → Bool) : Option (Nat × List Int) :=
 (if (holdsk 0) = true then (if (holdsh 0) = true then (if (holdsk 1) = true then (if (holdsh 1) = true then (if (holdsk 2) = true then (if (holdsh 2) = true then some (3, [0, 1, 2]) else some (2, [0, 1])) else none) else (if (holdsk 2) = true then (if (holdsh 2) = true then some (2, [0, 2]) else some (1, [0])) else none)) else none) else (if (holdsk 1) = true then (if (holdsh 1) = true then (if (holdsk 2) = true then (if (holdsh 2) = true then some (2, [1, 2]) else some (1, [1])) else none) else (if (holdsk 2) = true then (if (holdsh 2) = true then some (1, [2]) else some (0, [])) else none)) else none)) else none)
theorem eq_i_coloursWith (holdsk holdsh : Int → Bool) : eT S_i_coloursWith 143 18 dec_l2_1 [.f (clo_i_b holdsk holdsh)] = Fo_i_coloursWith holdsk holdsh := by
 kernel_rfl
def i_coloursWith (holdsk holdsh : Int → Bool) : Nat × List Int :=
 (if (holdsh 0) = true then (if (holdsh 1) = true then (if (holdsh 2) = true then (3, [0, 1, 2]) else (2, [0, 1])) else (if (holdsh 2) = true then (2, [0, 2]) else (1, [0]))) else (if (holdsh 1) = true then (if (holdsh 2) = true then (2, [1, 2]) else (1, [1])) else (if (holdsh 2) = true then (1, [2]) else (0, []))))
theorem tot_i_coloursWith (holdsk holdsh : Int → Bool) (hp : (holdsk 0 && holdsk 1 && holdsk 2) = true) : Fo_i_coloursWith holdsk holdsh = some (i_coloursWith holdsk holdsh) := by
 simp only [Bool.and_eq_true] at hp
 obtain ⟨⟨h0, h1⟩, h2⟩ := hp
 unfold Fo_i_coloursWith i_coloursWith
 simp only [h0, h1, h2, if_true]
 repeat' split
 all_goals rfl
def run_i_coloursWith : RunP
 | [.f holdsg] => some ((fun a0 => okV (holdsg [.int .i64 a0])) 0 && (fun a0 => okV (holdsg [.int .i64 a0])) 1 && (fun a0 => okV (holdsg [.int .i64 a0])) 2, enc_l2_1 (i_coloursWith (fun a0 => okV (holdsg [.int .i64 a0])) (fun a0 => boolV (holdsg [.int .i64 a0]))))
 | _ => none
theorem sound_i_coloursWith : Sound prog 143 run_i_coloursWith := by
 refine sound_of de_l2_1 SO_i_coloursWith (by kernel_rfl) func143 ntmps143 rfl (by kernel_rfl) ?_
 intro W pvs avs rs hargs hrun
 unfold run_i_coloursWith at hrun
 split at hrun
 ·simp only [Option.some.injEq, Prod.mk.injEq] at hrun
  obtain ⟨hp, rfl⟩ := hrun
  rename_i holdsg
  have hargs := All2.replace (l1 := []) hargs (y := .f (clo_i_b _ _)) fun b hb => fn_weaken hb (clo_i_b_ok _)
  exact ⟨_, _, _, hargs, rfl, (eq_i_coloursWith (fun a0 => okV (holdsg [.int .i64 a0])) (fun a0 => boolV (holdsg [.int .i64 a0]))).trans (tot_i_coloursWith (fun a0 => okV (holdsg [.int .i64 a0])) (fun a0 => boolV (holdsg [.int .i64 a0])) hp)⟩
 ·cases hrun

def S_i_RightColours : Sums := ⟨tblS [(106, run_i_asked), (142, run_i_RightColours_c1), (143, run_i_coloursWith), (144, run_i_RightColours_c2)], tblM [], false⟩
theorem SO_i_RightColours : SumsOK prog S_i_RightColours := ⟨tblS_ok ⟨⟨call106, sound_i_asked⟩, ⟨call142, sound_i_RightColours_c1⟩, ⟨call143, sound_i_coloursWith⟩, ⟨call144, sound_i_RightColours_c2⟩, ⟨⟩⟩, tM⟩
def Fo_i_RightColours (p : Int) (a b c : P2) : Option ((Nat × List Int) × Int) :=
 (if ((true) || !(i_IsField p)) = true then (if ((i_asked p (true) (i_RightColours_c1 p a b c)) != 0) = true then some ((0, []), (i_asked p (true) (i_RightColours_c1 p a b c))) else (if ((fun a0 => prB p) 0 && (fun a0 => prB p) 1 && (fun a0 => prB p) 2) = true then some (((i_coloursWith (fun a0 => prB p) (fun a0 => i_RightColours_c2 a0 p a b c)).1, (i_coloursWith (fun a0 => prB p) (fun a0 => i_RightColours_c2 a0 p a b c)).2), 0) else none)) else none)
theorem eq_i_RightColours (p : Int) (a b c : P2) : eT S_i_RightColours 89 19 dec_l2_1_i [pI p, pA a, pA b, pA c] = Fo_i_RightColours p a b c := by
 kernel_rfl
def i_RightColours (p : Int) (a b c : P2) : (Nat × List Int) × Int :=
 (if ((i_asked p (true) (i_RightColours_c1 p a b c)) != 0) = true then ((0, []), (i_asked p (true) (i_RightColours_c1 p a b c))) else (((i_coloursWith (fun a0 => prB p) (fun a0 => i_RightColours_c2 a0 p a b c)).1, (i_coloursWith (fun a0 => prB p) (fun a0 => i_RightColours_c2 a0 p a b c)).2), 0))
theorem tot_i_RightColours (p : Int) (a b c : P2) : Fo_i_RightColours p a b c = some (i_RightColours p a b c) := by
 unfold Fo_i_RightColours i_RightColours
 (try simp only [wI_eq])
 repeat' (first | with_reducible rfl | refine chk_opt (by first | with_reducible rfl | exact Bool.true_or _ | (have hq : prB p = true := (by (first | (with_reducible assumption) | (with_reducible exact asked_prB ‹_›) | (with_reducible exact asked_prB0 ‹_›))); first | exact hq | exact mk_ok hq | exact and_all hq (fun _ => rfl) | exact and_all hq (fun _ => hq) | exact and3 hq hq hq | exact and_two hq rfl | exact map3_ok hq) | rfl) ?_ | refine ite_opt (fun _ => ?_) (fun _ => ?_) | rfl)
def run_i_RightColours : RunP
 | [.v (.int .i64 p), .v (.agg ⟨[.int .i64 a0, .int .i64 a1]⟩), .v (.agg ⟨[.int .i64 b0, .int .i64 b1]⟩), .v (.agg ⟨[.int .i64 c0, .int .i64 c1]⟩)] => some (true, enc_l2_1_i (i_RightColours p (a0, a1) (b0, b1) (c0, c1)))
 | _ => none
theorem sound_i_RightColours : Sound prog 89 run_i_RightColours := by
 refine sound_1 de_l2_1_i SO_i_RightColours (by kernel_rfl) func89 ntmps89 rfl (by kernel_rfl) fun q r E => ?_
 unfold run_i_RightColours at E
 split at E
 ·obtain ⟨hp, rfl⟩ := so2 E
  rename_i p a0 a1 b0 b1 c0 c1
  exact ⟨_, _, rfl, (eq_i_RightColours p (a0, a1) (b0, b1) (c0, c1)).trans (tot_i_RightColours p (a0, a1) (b0, b1) (c0, c1))⟩
 ·cases E

def S_s_RightColours : Sums := ⟨tblS [(97, run_s_l01Code), (205, run_s_l01Minus), (224, run_s_l02Product)], tblM [], false⟩
theorem SO_s_RightColours : SumsOK prog S_s_RightColours := ⟨tblS_ok ⟨⟨call97, sound_s_l01Code⟩, ⟨call205, sound_s_l01Minus⟩, ⟨call224, sound_s_l02Product⟩, ⟨⟩⟩, tM⟩
def Fo_s_RightColours (p : Int) (a b c : P2) : Option ((Nat × List Int) × Int) :=
 (if ((s_l01Code p [a, b, c]) != 0) = true then some ((0, []), (s_l01Code p [a, b, c])) else (if (prB p) = true then (if (prB p) = true then (if (prB p) = true then (if ((s_l02Product p 0 (s_l01Minus p b a) (s_l01Minus p c a)) == 0) = true then (if (prB p) = true then (if (prB p) = true then (if (prB p) = true then (if ((s_l02Product p 1 (s_l01Minus p b a) (s_l01Minus p c a)) == 0) = true then (if (prB p) = true then (if (prB p) = true then (if (prB p) = true then (if ((s_l02Product p 2 (s_l01Minus p b a) (s_l01Minus p c a)) == 0) = true then some ((3, [0, 1, 2]), 0) else some ((2, [0, 1]), 0)) else none) else none) else none) else (if (prB p) = true then (if (prB p) = true then (if (prB p) = true then (if ((s_l02Product p 2 (s_l01Minus p b a) (s_l01Minus p c a)) == 0) = true then some ((2, [0, 2]), 0) else some ((1, [0]), 0)) else none) else none) else none)) else none) else none) else none) else (if (prB p) = true then (if (prB p) = true then (if (prB p) = true then (if ((s_l02Product p 1 (s_l01Minus p b a) (s_l01Minus p c a)) == 0) = true then (if (prB p) = true then (if (prB p) = true then (if (prB p) = true then (if ((s_l02Product p 2 (s_l01Minus p b a) (s_l01Minus p c a)) == 0) = true then some ((2, [1, 2]), 0) else some ((1, [1]), 0)) else none) else none) else none) else (if (prB p) = true then (if (prB p) = true then (if (prB p) = true then (if ((s_l02Product p 2 (s_l01Minus p b a) (s_l01Minus p c a)) == 0) = true then some ((1, [2]), 0) else some ((0, []), 0)) else none) else none) else none)) else none) else none) else none)) else none) else none) else none))
theorem eq_s_RightColours (p : Int) (a b c : P2) : eT S_s_RightColours 199 44 dec_l2_1_i [pI p, pA a, pA b, pA c] = Fo_s_RightColours p a b c := by
 kernel_rfl
def s_RightColours (p : Int) (a b c : P2) : (Nat × List Int) × Int :=
 (if ((s_l01Code p [a, b, c]) != 0) = true then ((0, []), (s_l01Code p [a, b, c])) else (if ((s_l02Product p 0 (s_l01Minus p b a) (s_l01Minus p c a)) == 0) = true then (if ((s_l02Product p 1 (s_l01Minus p b a) (s_l01Minus p c a)) == 0) = true then (if ((s_l02Product p 2 (s_l01Minus p b a) (s_l01Minus p c a)) == 0) = true then ((3, [0, 1, 2]), 0) else ((2, [0, 1]), 0)) else (if ((s_l02Product p 2 (s_l01Minus p b a) (s_l01Minus p c a)) == 0) = true then ((2, [0, 2]), 0) else ((1, [0]), 0))) else (if ((s_l02Product p 1 (s_l01Minus p b a) (s_l01Minus p c a)) == 0) = true then (if ((s_l02Product p 2 (s_l01Minus p b a) (s_l01Minus p c a)) == 0) = true then ((2, [1, 2]), 0) else ((1, [1]), 0)) else (if ((s_l02Product p 2 (s_l01Minus p b a) (s_l01Minus p c a)) == 0) = true then ((1, [2]), 0) else ((0, []), 0)))))
theorem tot_s_RightColours (p : Int) (a b c : P2) : Fo_s_RightColours p a b c = some (s_RightColours p a b c) := by
 unfold Fo_s_RightColours s_RightColours
 (try simp only [wI_eq])
 repeat' (first | with_reducible rfl | refine chk_opt (by (first | (with_reducible assumption) | (with_reducible exact l01Code_prB ‹_›) | (with_reducible exact l01Code_prB0 ‹_›))) ?_ | refine ite_opt (fun _ => ?_) (fun _ => ?_) | rfl)
def run_s_RightColours : RunP
 | [.v (.int .i64 p), .v (.agg ⟨[.int .i64 a0, .int .i64 a1]⟩), .v (.agg ⟨[.int .i64 b0, .int .i64 b1]⟩), .v (.agg ⟨[.int .i64 c0, .int .i64 c1]⟩)] => some (true, enc_l2_1_i (s_RightColours p (a0, a1) (b0, b1) (c0, c1)))
 | _ => none
theorem sound_s_RightColours : Sound prog 199 run_s_RightColours := by
 refine sound_1 de_l2_1_i SO_s_RightColours (by kernel_rfl) func199 ntmps199 rfl (by kernel_rfl) fun q r E => ?_
 unfold run_s_RightColours at E
 split at E
 ·obtain ⟨hp, rfl⟩ := so2 E
  rename_i p a0 a1 b0 b1 c0 c1
  exact ⟨_, _, rfl, (eq_s_RightColours p (a0, a1) (b0, b1) (c0, c1)).trans (tot_s_RightColours p (a0, a1) (b0, b1) (c0, c1))⟩
 ·cases E

def S_i_UnitCounts : Sums := ⟨tblS [(35, run_i_IsField), (123, run_i_pointsAt)], tblM [], false⟩
theorem SO_i_UnitCounts : SumsOK prog S_i_UnitCounts := ⟨tblS_ok ⟨⟨call35, sound_i_IsField⟩, ⟨call123, sound_i_pointsAt⟩, ⟨⟩⟩, tM⟩
def Fo_i_UnitCounts (p : Int) : Option ((Nat × List Int) × Int) :=
 (if (!(i_IsField p)) = true then some ((0, []), 1) else (if (prB p) = true then (if (prB p) = true then (if (prB p) = true then some ((3, [(((i_pointsAt p 0 (0, 0) 1).1 : Nat) : Int), (((i_pointsAt p 1 (0, 0) 1).1 : Nat) : Int), (((i_pointsAt p 2 (0, 0) 1).1 : Nat) : Int)]), 0) else none) else none) else none))
theorem eq_i_UnitCounts (p : Int) : eT S_i_UnitCounts 90 23 dec_l2_1_i [pI p] = Fo_i_UnitCounts p := by
 kernel_rfl
def i_UnitCounts (p : Int) : (Nat × List Int) × Int :=
 (if (!(i_IsField p)) = true then ((0, []), 1) else ((3, [(((i_pointsAt p 0 (0, 0) 1).1 : Nat) : Int), (((i_pointsAt p 1 (0, 0) 1).1 : Nat) : Int), (((i_pointsAt p 2 (0, 0) 1).1 : Nat) : Int)]), 0))
theorem tot_i_UnitCounts (p : Int) : Fo_i_UnitCounts p = some (i_UnitCounts p) := by
 unfold Fo_i_UnitCounts i_UnitCounts
 (try simp only [wI_eq])
 repeat' (first | with_reducible rfl | refine chk_opt (by (first | (with_reducible assumption) | (with_reducible exact field_prB ‹_›) | (with_reducible exact field_prB0 ‹_›))) ?_ | refine ite_opt (fun _ => ?_) (fun _ => ?_) | rfl)
def run_i_UnitCounts : RunP
 | [.v (.int .i64 p)] => some (true, enc_l2_1_i (i_UnitCounts p))
 | _ => none
theorem sound_i_UnitCounts : Sound prog 90 run_i_UnitCounts := by
 refine sound_1 de_l2_1_i SO_i_UnitCounts (by kernel_rfl) func90 ntmps90 rfl (by kernel_rfl) fun q r E => ?_
 unfold run_i_UnitCounts at E
 split at E
 ·obtain ⟨hp, rfl⟩ := so2 E
  rename_i p
  exact ⟨_, _, rfl, (eq_i_UnitCounts p).trans (tot_i_UnitCounts p)⟩
 ·cases E

def S_s_UnitCounts : Sums := ⟨tblS [(154, run_s_l01Field), (206, run_s_l02At)], tblM [], false⟩
theorem SO_s_UnitCounts : SumsOK prog S_s_UnitCounts := ⟨tblS_ok ⟨⟨call154, sound_s_l01Field⟩, ⟨call206, sound_s_l02At⟩, ⟨⟩⟩, tM⟩
def Fo_s_UnitCounts (p : Int) : Option ((Nat × List Int) × Int) :=
 (if (!(s_l01Field p)) = true then some ((0, []), 1) else (if (prB p) = true then (if (prB p) = true then (if (prB p) = true then some ((3, [(((s_l02At p 0 (0, 0) 1).1 : Nat) : Int), (((s_l02At p 1 (0, 0) 1).1 : Nat) : Int), (((s_l02At p 2 (0, 0) 1).1 : Nat) : Int)]), 0) else none) else none) else none))
theorem eq_s_UnitCounts (p : Int) : eT S_s_UnitCounts 200 23 dec_l2_1_i [pI p] = Fo_s_UnitCounts p := by
 kernel_rfl
def s_UnitCounts (p : Int) : (Nat × List Int) × Int :=
 (if (!(s_l01Field p)) = true then ((0, []), 1) else ((3, [(((s_l02At p 0 (0, 0) 1).1 : Nat) : Int), (((s_l02At p 1 (0, 0) 1).1 : Nat) : Int), (((s_l02At p 2 (0, 0) 1).1 : Nat) : Int)]), 0))
theorem tot_s_UnitCounts (p : Int) : Fo_s_UnitCounts p = some (s_UnitCounts p) := by
 unfold Fo_s_UnitCounts s_UnitCounts
 (try simp only [wI_eq])
 repeat' (first | with_reducible rfl | refine chk_opt (by (first | (with_reducible assumption) | (with_reducible exact sfield_prB0 ‹_›))) ?_ | refine ite_opt (fun _ => ?_) (fun _ => ?_) | rfl)
def run_s_UnitCounts : RunP
 | [.v (.int .i64 p)] => some (true, enc_l2_1_i (s_UnitCounts p))
 | _ => none
theorem sound_s_UnitCounts : Sound prog 200 run_s_UnitCounts := by
 refine sound_1 de_l2_1_i SO_s_UnitCounts (by kernel_rfl) func200 ntmps200 rfl (by kernel_rfl) fun q r E => ?_
 unfold run_s_UnitCounts at E
 split at E
 ·obtain ⟨hp, rfl⟩ := so2 E
  rename_i p
  exact ⟨_, _, rfl, (eq_s_UnitCounts p).trans (tot_s_UnitCounts p)⟩
 ·cases E

end

end Go.Proofs.YtcdpfpfbilfpoaaGreatDoor
