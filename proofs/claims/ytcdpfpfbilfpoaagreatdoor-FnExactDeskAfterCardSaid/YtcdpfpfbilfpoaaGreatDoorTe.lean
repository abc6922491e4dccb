import Derived.Test.YtcdpfpfbilfpoaaGreatDoorLa
import Derived.Test.YtcdpfpfbilfpoaaGreatDoorProg
set_option linter.unusedSimpArgs false
set_option linter.unusedVariables false
namespace Go.Proofs.YtcdpfpfbilfpoaaGreatDoor
open Go.RowKit Tryz

def S_i_numbersText : Sums := ⟨tblS [(140, run_x_FormatInt)], tblM [], false⟩
theorem SO_i_numbersText : SumsOK prog S_i_numbersText := ⟨tblS_ok ⟨⟨call140, sound_x_FormatInt⟩, ⟨⟩⟩, tM⟩
def T_i_numbersText_0 (listn : Nat) (listl : List Int) (between : ByteArray) (t10 : Int) (out : ByteArray) : Tab := ⟨[.row 0, .val (.string between), .junk, .junk, .val (.string (bs [])), .val (.string out), .junk, .junk, .row 0, .val (.int .i64 ((listn : Nat) : Int)), .val (.int .i64 t10), .junk, .junk, .junk, .junk, .junk, .junk, .junk, .junk, .junk, .junk, .junk, .junk, .junk, .junk, .junk], [(0, .ros listn (.ints listl))]⟩
def X_i_numbersText_0 (P : Program) (fu listn : Nat) (listl : List Int) (between : ByteArray) (f : Nat) (t10 : Int) (out : ByteArray) : Option (ByteArray) := loopK (exec P S_i_numbersText 26 (fun _ => fu + 100) (Code.sub [1, 1, 0, 1, 0, 0] (bodyF P 85))) f (T_i_numbersText_0 listn listl between t10 out) (kBlock 0 (kSeq (fun zs9 => exec P S_i_numbersText 26 (fun _ => fu + 100) (Code.sub [1, 1, 1] (bodyF P 85)) zs9 (finT P 85 dec_s)) (finT P 85 dec_s)))
def B_i_numbersText_0 (listn : Nat) (listl : List Int) (between : ByteArray) (rec0 : Int → ByteArray → Option (ByteArray)) (t10 : Int) (out : ByteArray) : Option (ByteArray) :=
 (if (decide (t10 < ((listn : Nat) : Int))) = true then (if (decide (0 ≤ t10) && decide (t10 < ((listn : Nat) : Int))) = true then (if (Nat.ble (t10.toNat * 1 + 1) listl.length) = true then (if (decide (t10 > 0)) = true then (if (Nat.ble (out.size + between.size) 9223372036854775807) = true then (if (smallOK (listl.getD (t10.toNat * 1) 0) 10) = true then (if (Nat.ble ((out ++ between).size + (x_FormatInt (listl.getD (t10.toNat * 1) 0) 10).size) 9223372036854775807) = true then rec0 (wI (t10 + 1)) ((out ++ between) ++ (x_FormatInt (listl.getD (t10.toNat * 1) 0) 10)) else none) else none) else none) else (if (smallOK (listl.getD (t10.toNat * 1) 0) 10) = true then (if (Nat.ble (out.size + (x_FormatInt (listl.getD (t10.toNat * 1) 0) 10).size) 9223372036854775807) = true then rec0 (wI (t10 + 1)) (out ++ (x_FormatInt (listl.getD (t10.toNat * 1) 0) 10)) else none) else none)) else none) else none) else some out)
def L_i_numbersText_0 (fu listn : Nat) (listl : List Int) (between : ByteArray) : Nat → Int → ByteArray → Option (ByteArray)
 | 0, _, _ => none
 | f + 1, t10, out => B_i_numbersText_0 listn listl between (L_i_numbersText_0 fu listn listl between f) t10 out
theorem loop_i_numbersText_0 (fu listn : Nat) (listl : List Int) (between : ByteArray) : ∀ (f : Nat) (t10 : Int) (out : ByteArray), X_i_numbersText_0 prog fu listn listl between f t10 out = L_i_numbersText_0 fu listn listl between f t10 out := by
 intro f
 induction f with
 | zero => intros; rfl
 | succ f ih =>
  intro t10 out
  have h1 : X_i_numbersText_0 prog fu listn listl between (f + 1) t10 out = B_i_numbersText_0 listn listl between (X_i_numbersText_0 prog fu listn listl between f) t10 out := by kernel_rfl
  have h2 : X_i_numbersText_0 prog fu listn listl between f = L_i_numbersText_0 fu listn listl between f := by funext t10 out; exact ih t10 out
  rw [h1, h2]
  rfl
def G_i_numbersText (listn : Nat) (listl : List Int) (between : ByteArray) (lo0 : Int → ByteArray → Option (ByteArray)) : Option (ByteArray) :=
 lo0 0 (bs [])
def Fo_i_numbersText (fu listn : Nat) (listl : List Int) (between : ByteArray) : Option (ByteArray) := G_i_numbersText listn listl between (L_i_numbersText_0 fu listn listl between (fu + 100))
theorem eq_i_numbersText (fu listn : Nat) (listl : List Int) (between : ByteArray) : eF fu S_i_numbersText 85 26 dec_s [.s listn (.ints listl), .v (.string between)] = Fo_i_numbersText fu listn listl between := by
 have h1 : eF fu S_i_numbersText 85 26 dec_s [.s listn (.ints listl), .v (.string between)] = G_i_numbersText listn listl between (X_i_numbersText_0 prog fu listn listl between (fu + 100)) := by kernel_rfl
 have c0 : X_i_numbersText_0 prog fu listn listl between (fu + 100) = L_i_numbersText_0 fu listn listl between (fu + 100) := by funext t10 out; exact loop_i_numbersText_0 fu listn listl between (fu + 100) t10 out
 rw [h1, c0]
 rfl
theorem lo_i_numbersText {listn : Nat} {listl : List Int} {between : ByteArray} (hp : (numB listn listl && Nat.ble between.size 10) = true) {F : Nat} (hF : listn < F) : L_i_numbersText_0 1000000 listn listl between F 0 (bs []) = some (bs (jn (toL between) ((List.range listn).map fun q => toL ((fun q => x_FormatInt (listl.getD (q * 1) 0) 10) q)))) := by
 have hp' := hp
 unfold numB at hp'
 simp only [Bool.and_eq_true] at hp'
 obtain ⟨⟨h1, h2, h3⟩, h4⟩ := hp'
 have hb : between.size ≤ 10 := Nat.le_of_ble_eq_true h4
 have hl := (lenB_ok h1).1
 have hn : listn ≤ 100000 := Nat.le_of_ble_eq_true h3
 have hd : ∀ k, k < listn → num1 (listl.getD (k * 1) 0) = true := fun k hk => all_getD h2 (by omega)
 have hi : ∀ k, k < listn → (x_FormatInt (listl.getD (k * 1) 0) 10).size ≤ 200 := fun k hk => Nat.le_trans (sizeD (num1_dec (hd k hk))) (by decide)
 refine acc_loop (L := fun f out i => L_i_numbersText_0 1000000 listn listl between f i out) (item := (fun q => x_FormatInt (listl.getD (q * 1) 0) 10)) (sep := between) (n := listn) (M := 200) (by decide) hb hn hF hi (fun f out k hk hz => ?_) (fun f out => ?_)
 ·have hq := hi k hk
  show B_i_numbersText_0 listn listl between (L_i_numbersText_0 1000000 listn listl between f) (k : Int) out = _
  unfold B_i_numbersText_0
  rw [if_pos (by simpa using hk), if_pos (idx_in hk), if_pos (by rw [Int.toNat_natCast]; exact Nat.ble_eq_true_of_le (by omega))]
  by_cases h0 : k = 0
  ·rw [if_neg (by simp; omega), Int.toNat_natCast, if_pos (small_ok (hd k hk)), if_pos (cat_ok (by omega) (Nat.le_trans hq (by decide))), wrap_next hk (by omega), if_pos h0]
  ·rw [if_pos (by simp; omega), if_pos (cat_ok (by omega) (by have : (between).size ≤ 10 := hb; omega)), Int.toNat_natCast, if_pos (small_ok (hd k hk)), if_pos (cat_ok (by rw [size_app]; have : (between).size ≤ 10 := hb; omega) (Nat.le_trans hq (by decide))), wrap_next hk (by omega), if_neg h0]
 ·show B_i_numbersText_0 listn listl between (L_i_numbersText_0 1000000 listn listl between f) ((listn : Nat) : Int) out = _
  unfold B_i_numbersText_0
  rw [if_neg (by simp)]
def i_numbersText (listn : Nat) (listl : List Int) (between : ByteArray) : ByteArray := bs (jn (toL between) ((List.range listn).map fun q => decL (listl.getD (q * 1) 0).toNat))
theorem tot_i_numbersText (listn : Nat) (listl : List Int) (between : ByteArray) (hp : (numB listn listl && Nat.ble between.size 10) = true) : Fo_i_numbersText 1000000 listn listl between = some (i_numbersText listn listl between) := by
 have hn : listn ≤ 100000 := by
  unfold numB at hp
  simp only [Bool.and_eq_true] at hp
  exact Nat.le_of_ble_eq_true hp.1.2.2
 unfold Fo_i_numbersText G_i_numbersText
 exact lo_i_numbersText hp (by omega)
def run_i_numbersText : RunP
 | [.s listn (.ints listl), .v (.string between)] => some (numB listn listl && Nat.ble between.size 10, enc_s (i_numbersText listn listl between))
 | _ => none
theorem sound_i_numbersText : Sound prog 85 run_i_numbersText := by
 refine sound_1 de_s SO_i_numbersText (by kernel_rfl) func85 ntmps85 rfl (by kernel_rfl) fun q r E => ?_
 unfold run_i_numbersText at E
 split at E
 ·obtain ⟨hp, rfl⟩ := so2 E
  rename_i listn listl between
  exact ⟨_, _, rfl, (eq_i_numbersText _ listn listl between).trans (tot_i_numbersText listn listl between hp)⟩
 ·cases E

def S_i_pointText : Sums := ⟨tblS [(85, run_i_numbersText)], tblM [], false⟩
theorem SO_i_pointText : SumsOK prog S_i_pointText := ⟨tblS_ok ⟨⟨call85, sound_i_numbersText⟩, ⟨⟩⟩, tM⟩
def Fo_i_pointText (a : P2) : Option (ByteArray) :=
 (if (numB 2 [a.1, a.2] && Nat.ble (bs [44]).size 10) = true then some (i_numbersText 2 [a.1, a.2] (bs [44])) else none)
theorem eq_i_pointText (a : P2) : eT S_i_pointText 55 5 dec_s [pA a] = Fo_i_pointText a := by
 kernel_rfl
def i_pointText (a : P2) : ByteArray := bs (jn [44] [decL a.1.toNat, decL a.2.toNat])
theorem tot_i_pointText (a : P2) (hp : (num2 a) = true) : Fo_i_pointText a = some (i_pointText a) := by
 unfold Fo_i_pointText
 rw [if_pos (num2_nm hp)]
 rfl
def run_i_pointText : RunP
 | [.v (.agg ⟨[.int .i64 a0, .int .i64 a1]⟩)] => some (num2 (a0, a1), enc_s (i_pointText (a0, a1)))
 | _ => none
theorem sound_i_pointText : Sound prog 55 run_i_pointText := by
 refine sound_1 de_s SO_i_pointText (by kernel_rfl) func55 ntmps55 rfl (by kernel_rfl) fun q r E => ?_
 unfold run_i_pointText at E
 split at E
 ·obtain ⟨hp, rfl⟩ := so2 E
  rename_i a0 a1
  exact ⟨_, _, rfl, (eq_i_pointText (a0, a1)).trans (tot_i_pointText (a0, a1) hp)⟩
 ·cases E

def S_i_lineText : Sums := ⟨tblS [(85, run_i_numbersText)], tblM [], false⟩
theorem SO_i_lineText : SumsOK prog S_i_lineText := ⟨tblS_ok ⟨⟨call85, sound_i_numbersText⟩, ⟨⟩⟩, tM⟩
def Fo_i_lineText (l : P3) : Option (ByteArray) :=
 (if (numB 3 [l.1, l.2.1, l.2.2] && Nat.ble (bs [44]).size 10) = true then some (i_numbersText 3 [l.1, l.2.1, l.2.2] (bs [44])) else none)
theorem eq_i_lineText (l : P3) : eT S_i_lineText 127 5 dec_s [pB l] = Fo_i_lineText l := by
 kernel_rfl
def i_lineText (l : P3) : ByteArray := bs (jn [44] [decL l.1.toNat, decL l.2.1.toNat, decL l.2.2.toNat])
theorem tot_i_lineText (l : P3) (hp : (num3 l) = true) : Fo_i_lineText l = some (i_lineText l) := by
 unfold Fo_i_lineText
 rw [if_pos (num3_nm hp)]
 rfl
def run_i_lineText : RunP
 | [.v (.agg ⟨[.int .i64 l0, .int .i64 l1, .int .i64 l2]⟩)] => some (num3 (l0, l1, l2), enc_s (i_lineText (l0, l1, l2)))
 | _ => none
theorem sound_i_lineText : Sound prog 127 run_i_lineText := by
 refine sound_1 de_s SO_i_lineText (by kernel_rfl) func127 ntmps127 rfl (by kernel_rfl) fun q r E => ?_
 unfold run_i_lineText at E
 split at E
 ·obtain ⟨hp, rfl⟩ := so2 E
  rename_i l0 l1 l2
  exact ⟨_, _, rfl, (eq_i_lineText (l0, l1, l2)).trans (tot_i_lineText (l0, l1, l2) hp)⟩
 ·cases E

def S_i_listText : Sums := ⟨tblS [(165, run_x_Join)], tblM [], false⟩
theorem SO_i_listText : SumsOK prog S_i_listText := ⟨tblS_ok ⟨⟨call165, sound_x_Join⟩, ⟨⟩⟩, tM⟩
def Fo_i_listText (partsn : Nat) (partsl : List ByteArray) : Option (ByteArray) :=
 (if (((partsn : Nat) : Int) == 0) = true then some (bs [110, 111, 110, 101]) else (if (joinOK partsn partsl (bs [32])) = true then some (x_Join partsn partsl (bs [32])) else none))
theorem eq_i_listText (partsn : Nat) (partsl : List ByteArray) : eT S_i_listText 105 8 dec_s [.s partsn (.strs partsl)] = Fo_i_listText partsn partsl := by
 kernel_rfl
def i_listText (partsn : Nat) (partsl : List ByteArray) : ByteArray := bs (textsL (partsl.map toL))
theorem tot_i_listText (partsn : Nat) (partsl : List ByteArray) (hp : (txB partsn partsl) = true) : Fo_i_listText partsn partsl = some (i_listText partsn partsl) := by
 have h1 := hp
 unfold txB lenT at h1
 simp only [Bool.and_eq_true] at h1
 have hl : partsl.length = partsn := Nat.eq_of_beq_eq_true h1.1
 unfold Fo_i_listText i_listText
 cases partsl with
 | nil => rw [if_pos (by rw [← hl]; rfl)]; rfl
 | cons x r =>
  rw [if_neg (by rw [← hl]; simp; omega), if_pos (by unfold joinOK; rw [hp]; rfl)]
  rfl
def run_i_listText : RunP
 | [.s partsn (.strs partsl)] => some (txB partsn partsl, enc_s (i_listText partsn partsl))
 | _ => none
theorem sound_i_listText : Sound prog 105 run_i_listText := by
 refine sound_1 de_s SO_i_listText (by kernel_rfl) func105 ntmps105 rfl (by kernel_rfl) fun q r E => ?_
 unfold run_i_listText at E
 split at E
 ·obtain ⟨hp, rfl⟩ := so2 E
  rename_i partsn partsl
  exact ⟨_, _, rfl, (eq_i_listText partsn partsl).trans (tot_i_listText partsn partsl hp)⟩
 ·cases E

def S_i_pointsText : Sums := ⟨tblS [(55, run_i_pointText), (105, run_i_listText)], tblM [], false⟩
theorem SO_i_pointsText : SumsOK prog S_i_pointsText := ⟨tblS_ok ⟨⟨call55, sound_i_pointText⟩, ⟨call105, sound_i_listText⟩, ⟨⟩⟩, tM⟩
def T_i_pointsText_0 (listn : Nat) (listl : List Int) (l6 : List ByteArray) (m6 : Nat) (t9 : Int) : Tab := ⟨[.row 0, .junk, .val (.string (bs [])), .row 24, .junk, .junk, .junk, .row 0, .val (.int .i64 ((listn : Nat) : Int)), .val (.int .i64 t9), .junk, .junk, .junk, .junk, .junk, .junk, .junk, .junk, .junk, .junk, .junk], [(0, .ros listn (.ints listl)), (24, .row 9 1 m6 (.strs l6))]⟩
def X_i_pointsText_0 (P : Program) (fu listn : Nat) (listl : List Int) (f : Nat) (l6 : List ByteArray) (m6 : Nat) (t9 : Int) : Option (ByteArray) := loopK (exec P S_i_pointsText 21 (fun _ => fu + 100) (Code.sub [1, 1, 0, 1, 0, 0] (bodyF P 56))) f (T_i_pointsText_0 listn listl l6 m6 t9) (kBlock 0 (kSeq (fun zs9 => exec P S_i_pointsText 21 (fun _ => fu + 100) (Code.sub [1, 1, 1] (bodyF P 56)) zs9 (finT P 56 dec_s)) (finT P 56 dec_s)))
def B_i_pointsText_0 (listn : Nat) (listl : List Int) (rec0 : (List ByteArray) → Nat → Int → Option (ByteArray)) (l6 : List ByteArray) (m6 : Nat) (t9 : Int) : Option (ByteArray) :=
 (if (decide (t9 < ((listn : Nat) : Int))) = true then (if (decide (0 ≤ t9) && decide (t9 < ((listn : Nat) : Int))) = true then (if (Nat.ble (t9.toNat * 2 + 2) listl.length) = true then (if (num2 (listl.getD (t9.toNat * 2 + 0) 0, listl.getD (t9.toNat * 2 + 1) 0)) = true then (if (Nat.ble 0 1 && Nat.ble (m6 + 1) 2000000 && Nat.beq 1 (1)) = true then rec0 (l6 ++ [(i_pointText (listl.getD (t9.toNat * 2 + 0) 0, listl.getD (t9.toNat * 2 + 1) 0))]) (m6 + 1) (wI (t9 + 1)) else none) else none) else none) else none) else (if (txB m6 l6) = true then some (i_listText m6 l6) else none))
def L_i_pointsText_0 (fu listn : Nat) (listl : List Int) : Nat → (List ByteArray) → Nat → Int → Option (ByteArray)
 | 0, _, _, _ => none
 | f + 1, l6, m6, t9 => B_i_pointsText_0 listn listl (L_i_pointsText_0 fu listn listl f) l6 m6 t9
theorem loop_i_pointsText_0 (fu listn : Nat) (listl : List Int) : ∀ (f : Nat) (l6 : List ByteArray) (m6 : Nat) (t9 : Int), X_i_pointsText_0 prog fu listn listl f l6 m6 t9 = L_i_pointsText_0 fu listn listl f l6 m6 t9 := by
 intro f
 induction f with
 | zero => intros; rfl
 | succ f ih =>
  intro l6 m6 t9
  have h1 : X_i_pointsText_0 prog fu listn listl (f + 1) l6 m6 t9 = B_i_pointsText_0 listn listl (X_i_pointsText_0 prog fu listn listl f) l6 m6 t9 := by kernel_rfl
  have h2 : X_i_pointsText_0 prog fu listn listl f = L_i_pointsText_0 fu listn listl f := by funext l6 m6 t9; exact ih l6 m6 t9
  rw [h1, h2]
  rfl
def G_i_pointsText (listn : Nat) (listl : List Int) (lo0 : (List ByteArray) → Nat → Int → Option (ByteArray)) : Option (ByteArray) :=
 lo0 [] 0 0
def Fo_i_pointsText (fu listn : Nat) (listl : List Int) : Option (ByteArray) := G_i_pointsText listn listl (L_i_pointsText_0 fu listn listl (fu + 100))
theorem eq_i_pointsText (fu listn : Nat) (listl : List Int) : eF fu S_i_pointsText 56 21 dec_s [.s listn (.ints listl)] = Fo_i_pointsText fu listn listl := by
 have h1 : eF fu S_i_pointsText 56 21 dec_s [.s listn (.ints listl)] = G_i_pointsText listn listl (X_i_pointsText_0 prog fu listn listl (fu + 100)) := by kernel_rfl
 have c0 : X_i_pointsText_0 prog fu listn listl (fu + 100) = L_i_pointsText_0 fu listn listl (fu + 100) := by funext l6 m6 t9; exact loop_i_pointsText_0 fu listn listl (fu + 100) l6 m6 t9
 rw [h1, c0]
 rfl
theorem cells_i_pointsText {listn : Nat} {listl : List Int} (hp : ptsB listn listl = true) : listl.length = 2 * listn ∧ listn ≤ 100000 ∧ ∀ k, k < listn → num2 (listl.getD (k * 2 + 0) 0, listl.getD (k * 2 + 1) 0) = true := by
 unfold ptsB at hp
 simp only [Bool.and_eq_true] at hp
 obtain ⟨h1, h2, h3⟩ := hp
 have hl := (lenB_ok h1).1
 have hn := Nat.le_of_ble_eq_true h3
 exact ⟨hl, by omega, fun k hk => num2_of (all_getD h2 (by omega)) (all_getD h2 (by omega))⟩
def i_pointsText (listn : Nat) (listl : List Int) : ByteArray := bs (textsL ((List.range listn).map fun q => toL (i_pointText (listl.getD (q * 2 + 0) 0, listl.getD (q * 2 + 1) 0))))
theorem lo_i_pointsText {listn : Nat} {listl : List Int} (hp : ptsB listn listl = true) {F : Nat} (hF : listn < F) : L_i_pointsText_0 1000000 listn listl F [] 0 0 = some (i_pointsText listn listl) := by
 obtain ⟨hl, hn, hd⟩ := cells_i_pointsText hp
 refine gath_loop (item := fun q => i_pointText (listl.getD (q * 2 + 0) 0, listl.getD (q * 2 + 1) 0)) (n := listn) hF (fun f r k hk hr => ?_) (fun f => ?_)
 ·show B_i_pointsText_0 listn listl (L_i_pointsText_0 1000000 listn listl f) r k (k : Int) = _
  unfold B_i_pointsText_0
  rw [if_pos (by simpa using hk), if_pos (idx_in hk), if_pos (by rw [Int.toNat_natCast]; exact Nat.ble_eq_true_of_le (by omega)), Int.toNat_natCast, if_pos (hd k hk), if_pos (app_ok (by omega)), wrap_next hk (by omega)]
 ·show B_i_pointsText_0 listn listl (L_i_pointsText_0 1000000 listn listl f) _ _ ((listn : Nat) : Int) = _
  unfold B_i_pointsText_0
  rw [if_neg (by simp), if_pos (tx_of (item := fun q => i_pointText (listl.getD (q * 2 + 0) 0, listl.getD (q * 2 + 1) 0)) (by omega) fun q hq => Nat.le_trans (point_size (hd q hq)) (by decide))]
  show some (bs (textsL _)) = some (bs (textsL _))
  rw [List.map_map]
  rfl
theorem tot_i_pointsText (listn : Nat) (listl : List Int) (hp : (ptsB listn listl) = true) : Fo_i_pointsText 1000000 listn listl = some (i_pointsText listn listl) := by
 obtain ⟨_, hn, _⟩ := cells_i_pointsText hp
 unfold Fo_i_pointsText G_i_pointsText
 exact lo_i_pointsText hp (by omega)
def run_i_pointsText : RunP
 | [.s listn (.ints listl)] => some (ptsB listn listl, enc_s (i_pointsText listn listl))
 | _ => none
theorem sound_i_pointsText : Sound prog 56 run_i_pointsText := by
 refine sound_1 de_s SO_i_pointsText (by kernel_rfl) func56 ntmps56 rfl (by kernel_rfl) fun q r E => ?_
 unfold run_i_pointsText at E
 split at E
 ·obtain ⟨hp, rfl⟩ := so2 E
  rename_i listn listl
  exact ⟨_, _, rfl, (eq_i_pointsText _ listn listl).trans (tot_i_pointsText listn listl hp)⟩
 ·cases E

def S_i_linesText : Sums := ⟨tblS [(127, run_i_lineText), (105, run_i_listText)], tblM [], false⟩
theorem SO_i_linesText : SumsOK prog S_i_linesText := ⟨tblS_ok ⟨⟨call127, sound_i_lineText⟩, ⟨call105, sound_i_listText⟩, ⟨⟩⟩, tM⟩
def T_i_linesText_0 (listn : Nat) (listl : List Int) (l6 : List ByteArray) (m6 : Nat) (t9 : Int) : Tab := ⟨[.row 0, .junk, .val (.string (bs [])), .row 24, .junk, .junk, .junk, .row 0, .val (.int .i64 ((listn : Nat) : Int)), .val (.int .i64 t9), .junk, .junk, .junk, .junk, .junk, .junk, .junk, .junk, .junk, .junk, .junk], [(0, .ros listn (.ints listl)), (24, .row 9 1 m6 (.strs l6))]⟩
def X_i_linesText_0 (P : Program) (fu listn : Nat) (listl : List Int) (f : Nat) (l6 : List ByteArray) (m6 : Nat) (t9 : Int) : Option (ByteArray) := loopK (exec P S_i_linesText 21 (fun _ => fu + 100) (Code.sub [1, 1, 0, 1, 0, 0] (bodyF P 130))) f (T_i_linesText_0 listn listl l6 m6 t9) (kBlock 0 (kSeq (fun zs9 => exec P S_i_linesText 21 (fun _ => fu + 100) (Code.sub [1, 1, 1] (bodyF P 130)) zs9 (finT P 130 dec_s)) (finT P 130 dec_s)))
def B_i_linesText_0 (listn : Nat) (listl : List Int) (rec0 : (List ByteArray) → Nat → Int → Option (ByteArray)) (l6 : List ByteArray) (m6 : Nat) (t9 : Int) : Option (ByteArray) :=
 (if (decide (t9 < ((listn : Nat) : Int))) = true then (if (decide (0 ≤ t9) && decide (t9 < ((listn : Nat) : Int))) = true then (if (Nat.ble (t9.toNat * 3 + 3) listl.length) = true then (if (num3 (listl.getD (t9.toNat * 3 + 0) 0, listl.getD (t9.toNat * 3 + 1) 0, listl.getD (t9.toNat * 3 + 2) 0)) = true then (if (Nat.ble 0 1 && Nat.ble (m6 + 1) 2000000 && Nat.beq 1 (1)) = true then rec0 (l6 ++ [(i_lineText (listl.getD (t9.toNat * 3 + 0) 0, listl.getD (t9.toNat * 3 + 1) 0, listl.getD (t9.toNat * 3 + 2) 0))]) (m6 + 1) (wI (t9 + 1)) else none) else none) else none) else none) else (if (txB m6 l6) = true then some (i_listText m6 l6) else none))
def L_i_linesText_0 (fu listn : Nat) (listl : List Int) : Nat → (List ByteArray) → Nat → Int → Option (ByteArray)
 | 0, _, _, _ => none
 | f + 1, l6, m6, t9 => B_i_linesText_0 listn listl (L_i_linesText_0 fu listn listl f) l6 m6 t9
theorem loop_i_linesText_0 (fu listn : Nat) (listl : List Int) : ∀ (f : Nat) (l6 : List ByteArray) (m6 : Nat) (t9 : Int), X_i_linesText_0 prog fu listn listl f l6 m6 t9 = L_i_linesText_0 fu listn listl f l6 m6 t9 := by
 intro f
 induction f with
 | zero => intros; rfl
 | succ f ih =>
  intro l6 m6 t9
  have h1 : X_i_linesText_0 prog fu listn listl (f + 1) l6 m6 t9 = B_i_linesText_0 listn listl (X_i_linesText_0 prog fu listn listl f) l6 m6 t9 := by kernel_rfl
  have h2 : X_i_linesText_0 prog fu listn listl f = L_i_linesText_0 fu listn listl f := by funext l6 m6 t9; exact ih l6 m6 t9
  rw [h1, h2]
  rfl
def G_i_linesText (listn : Nat) (listl : List Int) (lo0 : (List ByteArray) → Nat → Int → Option (ByteArray)) : Option (ByteArray) :=
 lo0 [] 0 0
def Fo_i_linesText (fu listn : Nat) (listl : List Int) : Option (ByteArray) := G_i_linesText listn listl (L_i_linesText_0 fu listn listl (fu + 100))
theorem eq_i_linesText (fu listn : Nat) (listl : List Int) : eF fu S_i_linesText 130 21 dec_s [.s listn (.ints listl)] = Fo_i_linesText fu listn listl := by
 have h1 : eF fu S_i_linesText 130 21 dec_s [.s listn (.ints listl)] = G_i_linesText listn listl (X_i_linesText_0 prog fu listn listl (fu + 100)) := by kernel_rfl
 have c0 : X_i_linesText_0 prog fu listn listl (fu + 100) = L_i_linesText_0 fu listn listl (fu + 100) := by funext l6 m6 t9; exact loop_i_linesText_0 fu listn listl (fu + 100) l6 m6 t9
 rw [h1, c0]
 rfl
theorem cells_i_linesText {listn : Nat} {listl : List Int} (hp : lnsB listn listl = true) : listl.length = 3 * listn ∧ listn ≤ 100000 ∧ ∀ k, k < listn → num3 (listl.getD (k * 3 + 0) 0, listl.getD (k * 3 + 1) 0, listl.getD (k * 3 + 2) 0) = true := by
 unfold lnsB at hp
 simp only [Bool.and_eq_true] at hp
 obtain ⟨h1, h2, h3⟩ := hp
 have hl := (lenB_ok h1).1
 have hn := Nat.le_of_ble_eq_true h3
 exact ⟨hl, by omega, fun k hk => num3_of (all_getD h2 (by omega)) (all_getD h2 (by omega)) (all_getD h2 (by omega))⟩
def i_linesText (listn : Nat) (listl : List Int) : ByteArray := bs (textsL ((List.range listn).map fun q => toL (i_lineText (listl.getD (q * 3 + 0) 0, listl.getD (q * 3 + 1) 0, listl.getD (q * 3 + 2) 0))))
theorem lo_i_linesText {listn : Nat} {listl : List Int} (hp : lnsB listn listl = true) {F : Nat} (hF : listn < F) : L_i_linesText_0 1000000 listn listl F [] 0 0 = some (i_linesText listn listl) := by
 obtain ⟨hl, hn, hd⟩ := cells_i_linesText hp
 refine gath_loop (item := fun q => i_lineText (listl.getD (q * 3 + 0) 0, listl.getD (q * 3 + 1) 0, listl.getD (q * 3 + 2) 0)) (n := listn) hF (fun f r k hk hr => ?_) (fun f => ?_)
 ·show B_i_linesText_0 listn listl (L_i_linesText_0 1000000 listn listl f) r k (k : Int) = _
  unfold B_i_linesText_0
  rw [if_pos (by simpa using hk), if_pos (idx_in hk), if_pos (by rw [Int.toNat_natCast]; exact Nat.ble_eq_true_of_le (by omega)), Int.toNat_natCast, if_pos (hd k hk), if_pos (app_ok (by omega)), wrap_next hk (by omega)]
 ·show B_i_linesText_0 listn listl (L_i_linesText_0 1000000 listn listl f) _ _ ((listn : Nat) : Int) = _
  unfold B_i_linesText_0
  rw [if_neg (by simp), if_pos (tx_of (item := fun q => i_lineText (listl.getD (q * 3 + 0) 0, listl.getD (q * 3 + 1) 0, listl.getD (q * 3 + 2) 0)) (by omega) fun q hq => Nat.le_trans (line_size (hd q hq)) (by decide))]
  show some (bs (textsL _)) = some (bs (textsL _))
  rw [List.map_map]
  rfl
theorem tot_i_linesText (listn : Nat) (listl : List Int) (hp : (lnsB listn listl) = true) : Fo_i_linesText 1000000 listn listl = some (i_linesText listn listl) := by
 obtain ⟨_, hn, _⟩ := cells_i_linesText hp
 unfold Fo_i_linesText G_i_linesText
 exact lo_i_linesText hp (by omega)
def run_i_linesText : RunP
 | [.s listn (.ints listl)] => some (lnsB listn listl, enc_s (i_linesText listn listl))
 | _ => none
theorem sound_i_linesText : Sound prog 130 run_i_linesText := by
 refine sound_1 de_s SO_i_linesText (by kernel_rfl) func130 ntmps130 rfl (by kernel_rfl) fun q r E => ?_
 unfold run_i_linesText at E
 split at E
 ·obtain ⟨hp, rfl⟩ := so2 E
  rename_i listn listl
  exact ⟨_, _, rfl, (eq_i_linesText _ listn listl).trans (tot_i_linesText listn listl hp)⟩
 ·cases E

def S_i_longText : Sums := ⟨tblS [(85, run_i_numbersText)], tblM [], false⟩
theorem SO_i_longText : SumsOK prog S_i_longText := ⟨tblS_ok ⟨⟨call85, sound_i_numbersText⟩, ⟨⟩⟩, tM⟩
def Fo_i_longText (listn : Nat) (listl : List Int) : Option (ByteArray) :=
 (if (((listn : Nat) : Int) == 0) = true then some (bs [110, 111, 110, 101]) else (if (numB listn listl && Nat.ble (bs [32]).size 10) = true then some (i_numbersText listn listl (bs [32])) else none))
theorem eq_i_longText (listn : Nat) (listl : List Int) : eT S_i_longText 69 8 dec_s [.s listn (.ints listl)] = Fo_i_longText listn listl := by
 kernel_rfl
def i_longText (listn : Nat) (listl : List Int) : ByteArray := bs (textsL ((List.range listn).map fun q => decL (listl.getD (q * 1) 0).toNat))
theorem tot_i_longText (listn : Nat) (listl : List Int) (hp : (numB listn listl) = true) : Fo_i_longText listn listl = some (i_longText listn listl) := by
 unfold Fo_i_longText i_longText
 cases listn with
 | zero => rw [if_pos (show (((0 : Nat) : Int) == 0) = true from rfl)]; rfl
 | succ n =>
  rw [if_neg (by simp; omega), if_pos (by rw [hp]; rfl)]
  unfold i_numbersText textsL
  rw [List.range_succ_eq_map, List.map_cons]
  rfl
def run_i_longText : RunP
 | [.s listn (.ints listl)] => some (numB listn listl, enc_s (i_longText listn listl))
 | _ => none
theorem sound_i_longText : Sound prog 69 run_i_longText := by
 refine sound_1 de_s SO_i_longText (by kernel_rfl) func69 ntmps69 rfl (by kernel_rfl) fun q r E => ?_
 unfold run_i_longText at E
 split at E
 ·obtain ⟨hp, rfl⟩ := so2 E
  rename_i listn listl
  exact ⟨_, _, rfl, (eq_i_longText listn listl).trans (tot_i_longText listn listl hp)⟩
 ·cases E

end Go.Proofs.YtcdpfpfbilfpoaaGreatDoor
