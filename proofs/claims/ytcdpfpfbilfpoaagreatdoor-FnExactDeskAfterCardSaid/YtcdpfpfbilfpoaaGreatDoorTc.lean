import Derived.Test.YtcdpfpfbilfpoaaGreatDoorTb
import Derived.Test.YtcdpfpfbilfpoaaGreatDoorProg
set_option linter.unusedSimpArgs false
set_option linter.unusedVariables false
namespace Go.Proofs.YtcdpfpfbilfpoaaGreatDoor
open Go.RowKit Tryz
noncomputable section
def S_s_l01Split : Sums := ⟨tblS [], tblM [], false⟩
theorem SO_s_l01Split : SumsOK prog S_s_l01Split := ⟨tblS_ok ⟨⟩, tM⟩
def T_s_l01Split_0 (s : ByteArray) (by_ : Int) (l8 : List ByteArray) (m8 : Nat) (j_at i : Int) : Tab := ⟨[.val (.string s), .val (.int .u8 by_), .junk, .junk, .val (.slice none 0 0), .row 32, .val (.int .i64 j_at), .val (.int .i64 i), .junk, .junk, .junk, .junk, .junk, .junk, .junk, .junk, .junk, .junk, .junk, .junk, .junk, .junk, .junk, .junk, .junk, .junk, .junk, .junk, .junk, .junk, .junk, .junk, .junk, .junk, .junk], [(32, .row 9 1 m8 (.strs l8))]⟩
def X_s_l01Split_0 (P : Program) (fu : Nat) (s : ByteArray) (by_ : Int) (f : Nat) (l8 : List ByteArray) (m8 : Nat) (j_at i : Int) : Option (Nat × List ByteArray) := loopK (exec P S_s_l01Split 35 (fun _ => fu + 100) (Code.sub [1, 1, 1, 0, 1, 0, 0] (bodyF P 42))) f (T_s_l01Split_0 s by_ l8 m8 j_at i) (kBlock 0 (kSeq (fun zs9 => exec P S_s_l01Split 35 (fun _ => fu + 100) (Code.sub [1, 1, 1, 1] (bodyF P 42)) zs9 (finT P 42 dec_s9_1)) (finT P 42 dec_s9_1)))
def B_s_l01Split_0 (s : ByteArray) (by_ : Int) (rec0 : (List ByteArray) → Nat → Int → Int → Option (Nat × List ByteArray)) (l8 : List ByteArray) (m8 : Nat) (j_at i : Int) : Option (Nat × List ByteArray) :=
 (if (decide (i < ((s.size : Nat) : Int))) = true then (if (decide (0 ≤ i) && decide (i < ((s.size : Nat) : Int))) = true then (if (((s.data.getD i.toNat 0).toNat : Int) == by_) = true then (if (decide (0 ≤ j_at) && decide (j_at ≤ i) && decide (i ≤ ((s.size : Nat) : Int))) = true then (if (Nat.ble 0 1 && Nat.ble (m8 + 1) 2000000 && Nat.beq 1 (1)) = true then rec0 (l8 ++ [s.extract j_at.toNat i.toNat]) (m8 + 1) (wI (i + 1)) (wI (i + 1)) else none) else none) else rec0 l8 m8 j_at (wI (i + 1))) else none) else (if (decide (0 ≤ j_at) && decide (j_at ≤ ((s.size : Nat) : Int)) && decide (((s.size : Nat) : Int) ≤ ((s.size : Nat) : Int))) = true then (if (Nat.ble 0 1 && Nat.ble (m8 + 1) 2000000 && Nat.beq 1 (1)) = true then some (m8 + 1, l8 ++ [s.extract j_at.toNat s.size]) else none) else none))
def L_s_l01Split_0 (fu : Nat) (s : ByteArray) (by_ : Int) : Nat → (List ByteArray) → Nat → Int → Int → Option (Nat × List ByteArray)
 | 0, _, _, _, _ => none
 | f + 1, l8, m8, j_at, i => B_s_l01Split_0 s by_ (L_s_l01Split_0 fu s by_ f) l8 m8 j_at i
theorem loop_s_l01Split_0 (fu : Nat) (s : ByteArray) (by_ : Int) : ∀ (f : Nat) (l8 : List ByteArray) (m8 : Nat) (j_at i : Int), X_s_l01Split_0 prog fu s by_ f l8 m8 j_at i = L_s_l01Split_0 fu s by_ f l8 m8 j_at i := by
 intro f
 induction f with
 | zero => intros; rfl
 | succ f ih =>
  intro l8 m8 j_at i
  have h1 : X_s_l01Split_0 prog fu s by_ (f + 1) l8 m8 j_at i = B_s_l01Split_0 s by_ (X_s_l01Split_0 prog fu s by_ f) l8 m8 j_at i := by kernel_rfl
  have h2 : X_s_l01Split_0 prog fu s by_ f = L_s_l01Split_0 fu s by_ f := by funext l8 m8 j_at i; exact ih l8 m8 j_at i
  rw [h1, h2]
  rfl
def G_s_l01Split (s : ByteArray) (by_ : Int) (lo0 : (List ByteArray) → Nat → Int → Int → Option (Nat × List ByteArray)) : Option (Nat × List ByteArray) :=
 lo0 [] 0 0 0
def Fo_s_l01Split (fu : Nat) (s : ByteArray) (by_ : Int) : Option (Nat × List ByteArray) := G_s_l01Split s by_ (L_s_l01Split_0 fu s by_ (fu + 100))
theorem eq_s_l01Split (fu : Nat) (s : ByteArray) (by_ : Int) : eF fu S_s_l01Split 42 35 dec_s9_1 [.v (.string s), .v (.int .u8 by_)] = Fo_s_l01Split fu s by_ := by
 have h1 : eF fu S_s_l01Split 42 35 dec_s9_1 [.v (.string s), .v (.int .u8 by_)] = G_s_l01Split s by_ (X_s_l01Split_0 prog fu s by_ (fu + 100)) := by kernel_rfl
 have c0 : X_s_l01Split_0 prog fu s by_ (fu + 100) = L_s_l01Split_0 fu s by_ (fu + 100) := by funext l8 m8 j_at i; exact loop_s_l01Split_0 fu s by_ (fu + 100) l8 m8 j_at i
 rw [h1, c0]
 rfl
def cutOK (s : ByteArray) (c : Int) : Bool := Nat.ble s.size 1048576 && (decide (0 ≤ c) && decide (c < 256))
def s_l01Split (s : ByteArray) (by_ : Int) : Nat × List ByteArray := ((spL (UInt8.ofNat by_.toNat) (toL s)).length, (spL (UInt8.ofNat by_.toNat) (toL s)).map bs)
theorem byte_eq {b : UInt8} {c : Int} (h0 : 0 ≤ c) (h1 : c < 256) : (((b.toNat : Nat) : Int) == c) = true ↔ b = UInt8.ofNat c.toNat := by
 rw [beq_iff_eq]
 constructor
 ·intro h
  apply UInt8.toNat_inj.1
  rw [UInt8.toNat_ofNat_of_lt' (by show c.toNat < 256; omega)]
  omega
 ·intro h
  rw [h, UInt8.toNat_ofNat_of_lt' (by show c.toNat < 256; omega)]
  omega
theorem split_go {s : ByteArray} {by_ : Int} (h0 : 0 ≤ by_) (h1 : by_ < 256) (hs : s.size ≤ 1048576) : ∀ (Q D A : List UInt8) (R : List ByteArray) (F : Nat), toL s = A ++ D ++ Q → UInt8.ofNat by_.toNat ∉ D → R.length ≤ A.length → Q.length < F →
  L_s_l01Split_0 2000000 s by_ F R R.length (A.length : Int) ((A.length + D.length : Nat) : Int) = some (R.length + (spL (UInt8.ofNat by_.toNat) (D ++ Q)).length, R ++ (spL (UInt8.ofNat by_.toNat) (D ++ Q)).map bs)
 | Q, D, A, R, 0, _, _, _, h => absurd h (Nat.not_lt_zero _)
 | [], D, A, R, F + 1, e, hD, hR, _ => by
  have hsz : s.size = A.length + D.length := by rw [size_toL, e]; simp
  have hm : (Nat.ble 0 1 && Nat.ble (R.length + 1) 2000000 && Nat.beq 1 (1)) = true := by simp; omega
  show B_s_l01Split_0 s by_ (L_s_l01Split_0 2000000 s by_ F) R R.length (A.length : Int) ((A.length + D.length : Nat) : Int) = _
  unfold B_s_l01Split_0
  rw [if_neg (by rw [hsz]; simp), if_pos (by rw [hsz]; simp; omega), if_pos hm, Int.toNat_natCast, hsz, extract_mid e, List.append_nil, spL_no hD]
  rfl
 | b :: Q, D, A, R, F + 1, e, hD, hR, hF => by
  have hsz : s.size = A.length + D.length + (Q.length + 1) := by rw [size_toL, e]; simp; omega
  have hb : s.data.getD (A.length + D.length) 0 = b := by
   have := at_mid (s := s) (D := A ++ D) (Q := Q) (c := b) e
   rw [List.length_append] at this
   exact this
  have hm : (Nat.ble 0 1 && Nat.ble (R.length + 1) 2000000 && Nat.beq 1 (1)) = true := by simp; omega
  have hw : wI (((A.length + D.length : Nat) : Int) + 1) = ((A.length + D.length + 1 : Nat) : Int) := wrap_next (n := s.size) (by omega) (by omega)
  show B_s_l01Split_0 s by_ (L_s_l01Split_0 2000000 s by_ F) R R.length (A.length : Int) ((A.length + D.length : Nat) : Int) = _
  unfold B_s_l01Split_0
  rw [if_pos (by rw [hsz]; simp; omega), if_pos (by rw [hsz]; simp; omega), Int.toNat_natCast, hb, hw]
  by_cases hc : b = UInt8.ofNat by_.toNat
  ·rw [if_pos ((byte_eq h0 h1).2 hc), if_pos (by rw [hsz]; simp; omega), if_pos hm, Int.toNat_natCast, extract_mid (Q := b :: Q) e]
   have ih := split_go h0 h1 hs Q [] (A ++ D ++ [b]) (R ++ [bs D]) F (by rw [e]; simp) (by simp) (by simp; omega) (by simpa using hF)
   simp only [List.length_append, List.length_cons, List.length_nil, Nat.add_zero, List.nil_append] at ih
   rw [show R.length + 1 = R.length + (0 + 1) by omega, show A.length + D.length + 1 = A.length + D.length + (0 + 1) by omega] 
   rw [ih, hc, spL_hit Q hD]
   simp
   omega
  ·have ih := split_go h0 h1 hs Q (D ++ [b]) A R F (by rw [e]; simp) (by simp [hD]; exact fun q => hc q.symm) hR (by simpa using hF)
   rw [if_neg (fun q => hc ((byte_eq h0 h1).1 q))]
   simp only [List.length_append, List.length_cons, List.length_nil, List.append_assoc, List.singleton_append] at ih
   rw [show A.length + D.length + 1 = A.length + (D.length + (0 + 1)) by omega]
   exact ih
theorem tot_s_l01Split (s : ByteArray) (by_ : Int) (hp : (cutOK s by_) = true) : Fo_s_l01Split 2000000 s by_ = some (s_l01Split s by_) := by
 unfold cutOK at hp
 simp only [Bool.and_eq_true, decide_eq_true_eq] at hp
 obtain ⟨hs, h0, h1⟩ := hp
 have hs := Nat.le_of_ble_eq_true hs
 have h := split_go h0 h1 hs (toL s) [] [] [] (2000000 + 100) rfl (by simp) (Nat.le_refl _) (by rw [← size_toL]; omega)
 simp only [List.nil_append, List.length_nil, Nat.zero_add, Nat.add_zero] at h
 unfold Fo_s_l01Split G_s_l01Split s_l01Split
 exact h
def run_s_l01Split : RunP
 | [.v (.string s), .v (.int .u8 by_)] => some (cutOK s by_, enc_s9_1 (s_l01Split s by_))
 | _ => none
theorem sound_s_l01Split : Sound prog 42 run_s_l01Split := by
 refine sound_1 de_s9_1 SO_s_l01Split (by kernel_rfl) func42 ntmps42 rfl (by kernel_rfl) fun q r E => ?_
 unfold run_s_l01Split at E
 split at E
 ·obtain ⟨hp, rfl⟩ := so2 E
  rename_i s by_
  exact ⟨_, _, rfl, (eq_s_l01Split _ s by_).trans (tot_s_l01Split s by_ hp)⟩
 ·cases E

def S_s_l01Number : Sums := ⟨tblS [], tblM [], false⟩
theorem SO_s_l01Number : SumsOK prog S_s_l01Number := ⟨tblS_ok ⟨⟩, tM⟩
def T_s_l01Number_0 (s : ByteArray) (j_n i : Int) : Tab := ⟨[.val (.string s), .junk, .val (.int .i64 0), .val (.int .i64 j_n), .val (.int .i64 i), .val (.string s), .val (.int .i64 ((s.size : Nat) : Int)), .val (.bool (((s.size : Nat) : Int) == 0)), .val (.bool false), .val (.string s), .val (.int .i64 ((s.size : Nat) : Int)), .val (.bool (decide (((s.size : Nat) : Int) > 9))), .val (.bool (decide (((s.size : Nat) : Int) > 9))), .val (.bool false), .val (.string s), .val (.int .i64 ((s.size : Nat) : Int)), .val (.bool (decide (((s.size : Nat) : Int) > 1))), .val (.bool true), .val (.string s), .val (.int .u8 ((s.data.getD 0 0).toNat : Int)), .val (.bool (((s.data.getD 0 0).toNat : Int) == 48)), .val (.bool (((s.data.getD 0 0).toNat : Int) == 48)), .val (.bool (((s.data.getD 0 0).toNat : Int) == 48)), .junk, .junk, .junk, .junk, .junk, .junk, .junk, .junk, .junk, .junk, .junk, .junk, .junk, .junk, .junk, .junk, .junk, .junk, .junk, .junk, .junk, .junk, .junk, .junk, .junk], []⟩
def T_s_l01Number_1 (s : ByteArray) (j_n i : Int) : Tab := ⟨[.val (.string s), .junk, .val (.int .i64 0), .val (.int .i64 j_n), .val (.int .i64 i), .val (.string s), .val (.int .i64 ((s.size : Nat) : Int)), .val (.bool (((s.size : Nat) : Int) == 0)), .val (.bool false), .val (.string s), .val (.int .i64 ((s.size : Nat) : Int)), .val (.bool (decide (((s.size : Nat) : Int) > 9))), .val (.bool (decide (((s.size : Nat) : Int) > 9))), .val (.bool false), .val (.string s), .val (.int .i64 ((s.size : Nat) : Int)), .val (.bool (decide (((s.size : Nat) : Int) > 1))), .val (.bool false), .val (undef), .val (undef), .val (undef), .val (.bool false), .val (.bool false), .junk, .junk, .junk, .junk, .junk, .junk, .junk, .junk, .junk, .junk, .junk, .junk, .junk, .junk, .junk, .junk, .junk, .junk, .junk, .junk, .junk, .junk, .junk, .junk, .junk], []⟩
def X_s_l01Number_0 (P : Program) (fu : Nat) (s : ByteArray) (f : Nat) (j_n i : Int) : Option (Int) := loopK (exec P S_s_l01Number 48 (fun _ => fu + 100) (Code.sub [1, 1, 1, 0, 1, 0, 0] (bodyF P 94))) f (T_s_l01Number_0 s j_n i) (kBlock 0 (kSeq (fun zs9 => exec P S_s_l01Number 48 (fun _ => fu + 100) (Code.sub [1, 1, 1, 1] (bodyF P 94)) zs9 (finT P 94 dec_i)) (finT P 94 dec_i)))
def B_s_l01Number_0 (s : ByteArray) (rec0 : Int → Int → Option (Int)) (j_n i : Int) : Option (Int) :=
 (if (decide (i < ((s.size : Nat) : Int))) = true then (if (decide (0 ≤ i) && decide (i < ((s.size : Nat) : Int))) = true then (if (decide (((s.data.getD i.toNat 0).toNat : Int) < 48)) = true then some (-1) else (if (decide (0 ≤ i) && decide (i < ((s.size : Nat) : Int))) = true then (if (decide (((s.data.getD i.toNat 0).toNat : Int) > 57)) = true then some (-1) else (if (decide (0 ≤ i) && decide (i < ((s.size : Nat) : Int))) = true then rec0 (wI ((wI (j_n * 10)) + (wI (IntKind.u8.wrap (((s.data.getD i.toNat 0).toNat : Int) - 48))))) (wI (i + 1)) else none)) else none)) else none) else some j_n)
def L_s_l01Number_0 (fu : Nat) (s : ByteArray) : Nat → Int → Int → Option (Int)
 | 0, _, _ => none
 | f + 1, j_n, i => B_s_l01Number_0 s (L_s_l01Number_0 fu s f) j_n i
theorem loop_s_l01Number_0 (fu : Nat) (s : ByteArray) : ∀ (f : Nat) (j_n i : Int), X_s_l01Number_0 prog fu s f j_n i = L_s_l01Number_0 fu s f j_n i := by
 intro f
 induction f with
 | zero => intros; rfl
 | succ f ih =>
  intro j_n i
  have h1 : X_s_l01Number_0 prog fu s (f + 1) j_n i = B_s_l01Number_0 s (X_s_l01Number_0 prog fu s f) j_n i := by kernel_rfl
  have h2 : X_s_l01Number_0 prog fu s f = L_s_l01Number_0 fu s f := by funext j_n i; exact ih j_n i
  rw [h1, h2]
  rfl
def X_s_l01Number_1 (P : Program) (fu : Nat) (s : ByteArray) (f : Nat) (j_n i : Int) : Option (Int) := loopK (exec P S_s_l01Number 48 (fun _ => fu + 100) (Code.sub [1, 1, 1, 0, 1, 0, 0] (bodyF P 94))) f (T_s_l01Number_1 s j_n i) (kBlock 0 (kSeq (fun zs9 => exec P S_s_l01Number 48 (fun _ => fu + 100) (Code.sub [1, 1, 1, 1] (bodyF P 94)) zs9 (finT P 94 dec_i)) (finT P 94 dec_i)))
def B_s_l01Number_1 (s : ByteArray) (rec1 : Int → Int → Option (Int)) (j_n i : Int) : Option (Int) :=
 (if (decide (i < ((s.size : Nat) : Int))) = true then (if (decide (0 ≤ i) && decide (i < ((s.size : Nat) : Int))) = true then (if (decide (((s.data.getD i.toNat 0).toNat : Int) < 48)) = true then some (-1) else (if (decide (0 ≤ i) && decide (i < ((s.size : Nat) : Int))) = true then (if (decide (((s.data.getD i.toNat 0).toNat : Int) > 57)) = true then some (-1) else (if (decide (0 ≤ i) && decide (i < ((s.size : Nat) : Int))) = true then rec1 (wI ((wI (j_n * 10)) + (wI (IntKind.u8.wrap (((s.data.getD i.toNat 0).toNat : Int) - 48))))) (wI (i + 1)) else none)) else none)) else none) else some j_n)
def L_s_l01Number_1 (fu : Nat) (s : ByteArray) : Nat → Int → Int → Option (Int)
 | 0, _, _ => none
 | f + 1, j_n, i => B_s_l01Number_1 s (L_s_l01Number_1 fu s f) j_n i
theorem loop_s_l01Number_1 (fu : Nat) (s : ByteArray) : ∀ (f : Nat) (j_n i : Int), X_s_l01Number_1 prog fu s f j_n i = L_s_l01Number_1 fu s f j_n i := by
 intro f
 induction f with
 | zero => intros; rfl
 | succ f ih =>
  intro j_n i
  have h1 : X_s_l01Number_1 prog fu s (f + 1) j_n i = B_s_l01Number_1 s (X_s_l01Number_1 prog fu s f) j_n i := by kernel_rfl
  have h2 : X_s_l01Number_1 prog fu s f = L_s_l01Number_1 fu s f := by funext j_n i; exact ih j_n i
  rw [h1, h2]
  rfl
def G_s_l01Number (s : ByteArray) (lo0 : Int → Int → Option (Int)) (lo1 : Int → Int → Option (Int)) : Option (Int) :=
 (if (((s.size : Nat) : Int) == 0) = true then some (-1) else (if (decide (((s.size : Nat) : Int) > 9)) = true then some (-1) else (if (decide (((s.size : Nat) : Int) > 1)) = true then (if (decide (0 ≤ 0) && decide (0 < ((s.size : Nat) : Int))) = true then (if (((s.data.getD 0 0).toNat : Int) == 48) = true then some (-1) else lo0 0 0) else none) else lo1 0 0)))
def Fo_s_l01Number (fu : Nat) (s : ByteArray) : Option (Int) := G_s_l01Number s (L_s_l01Number_0 fu s (fu + 100)) (L_s_l01Number_1 fu s (fu + 100))
theorem eq_s_l01Number (fu : Nat) (s : ByteArray) : eF fu S_s_l01Number 94 48 dec_i [.v (.string s)] = Fo_s_l01Number fu s := by
 have h1 : eF fu S_s_l01Number 94 48 dec_i [.v (.string s)] = G_s_l01Number s (X_s_l01Number_0 prog fu s (fu + 100)) (X_s_l01Number_1 prog fu s (fu + 100)) := by kernel_rfl
 have c0 : X_s_l01Number_0 prog fu s (fu + 100) = L_s_l01Number_0 fu s (fu + 100) := by funext j_n i; exact loop_s_l01Number_0 fu s (fu + 100) j_n i
 have c1 : X_s_l01Number_1 prog fu s (fu + 100) = L_s_l01Number_1 fu s (fu + 100) := by funext j_n i; exact loop_s_l01Number_1 fu s (fu + 100) j_n i
 rw [h1, c0, c1]
 rfl
theorem go0_s_l01Number {s : ByteArray} (hs : s.size ≤ 9) : ∀ (Q D : List UInt8) (a F : Nat), toL s = D ++ Q → a < 10 ^ D.length → Q.length < F → L_s_l01Number_0 1000000 s F (a : Int) (D.length : Int) = (match valF a Q with | some n => some (n : Int) | none => some (-1))
 | Q, D, a, 0, _, _, h => absurd h (Nat.not_lt_zero _)
 | [], D, a, F + 1, e, _, _ => by
  have hsz : s.size = D.length := by rw [size_toL, e]; simp
  show B_s_l01Number_0 s (L_s_l01Number_0 1000000 s F) (a : Int) (D.length : Int) = _
  unfold B_s_l01Number_0
  rw [if_neg (by rw [hsz]; simp)]
  rfl
 | c :: Q, D, a, F + 1, e, ha, hF => by
  have hsz : s.size = D.length + (Q.length + 1) := by rw [size_toL, e]; simp
  have hc := at_mid e
  have hp := pow9 (k := D.length) (by omega)
  have hx : (decide (0 ≤ (D.length : Int)) && decide ((D.length : Int) < ((s.size : Nat) : Int))) = true := by rw [hsz]; simp; omega
  show B_s_l01Number_0 s (L_s_l01Number_0 1000000 s F) (a : Int) (D.length : Int) = _
  unfold B_s_l01Number_0
  rw [if_pos (by rw [hsz]; simp; omega), if_pos hx, Int.toNat_natCast, hc]
  by_cases hd : dgt c = true
  ·obtain ⟨d1, d2⟩ := dgt_iff.1 hd
   have e1 : wI ((a : Int) * 10) = ((a * 10 : Nat) : Int) := by rw [wI_eq]; unfold wrap64; omega
   have e2 : wI (((a * 10 : Nat) : Int) + ((c.toNat - 48 : Nat) : Int)) = ((a * 10 + (c.toNat - 48) : Nat) : Int) := by rw [wI_eq]; unfold wrap64; omega
   have e3 : wI ((D.length : Int) + 1) = (((D ++ [c]).length : Nat) : Int) := by rw [List.length_append]; exact wrap_next (n := s.size) (by omega) (by omega)
   rw [if_neg (by simp; omega), if_pos hx, if_neg (by simp; omega), if_pos hx, digit_wrap hd, e1, e2, e3]
   rw [go0_s_l01Number hs Q (D ++ [c]) (a * 10 + (c.toNat - 48)) F (by rw [e]; simp) (by rw [List.length_append]; exact acc_next ha (by omega)) (by simpa using hF)]
   rw [valF, if_pos hd]
  ·rw [valF, if_neg hd]
   by_cases h1 : c.toNat < 48
   ·rw [if_pos (by simpa using by omega)]
   ·have h2 : ¬ c.toNat ≤ 57 := fun h2 => hd (dgt_iff.2 ⟨by omega, h2⟩)
    rw [if_neg (by simp; omega), if_pos hx, if_pos (by simp; omega)]
theorem go1_s_l01Number {s : ByteArray} (hs : s.size ≤ 9) : ∀ (Q D : List UInt8) (a F : Nat), toL s = D ++ Q → a < 10 ^ D.length → Q.length < F → L_s_l01Number_1 1000000 s F (a : Int) (D.length : Int) = (match valF a Q with | some n => some (n : Int) | none => some (-1))
 | Q, D, a, 0, _, _, h => absurd h (Nat.not_lt_zero _)
 | [], D, a, F + 1, e, _, _ => by
  have hsz : s.size = D.length := by rw [size_toL, e]; simp
  show B_s_l01Number_1 s (L_s_l01Number_1 1000000 s F) (a : Int) (D.length : Int) = _
  unfold B_s_l01Number_1
  rw [if_neg (by rw [hsz]; simp)]
  rfl
 | c :: Q, D, a, F + 1, e, ha, hF => by
  have hsz : s.size = D.length + (Q.length + 1) := by rw [size_toL, e]; simp
  have hc := at_mid e
  have hp := pow9 (k := D.length) (by omega)
  have hx : (decide (0 ≤ (D.length : Int)) && decide ((D.length : Int) < ((s.size : Nat) : Int))) = true := by rw [hsz]; simp; omega
  show B_s_l01Number_1 s (L_s_l01Number_1 1000000 s F) (a : Int) (D.length : Int) = _
  unfold B_s_l01Number_1
  rw [if_pos (by rw [hsz]; simp; omega), if_pos hx, Int.toNat_natCast, hc]
  by_cases hd : dgt c = true
  ·obtain ⟨d1, d2⟩ := dgt_iff.1 hd
   have e1 : wI ((a : Int) * 10) = ((a * 10 : Nat) : Int) := by rw [wI_eq]; unfold wrap64; omega
   have e2 : wI (((a * 10 : Nat) : Int) + ((c.toNat - 48 : Nat) : Int)) = ((a * 10 + (c.toNat - 48) : Nat) : Int) := by rw [wI_eq]; unfold wrap64; omega
   have e3 : wI ((D.length : Int) + 1) = (((D ++ [c]).length : Nat) : Int) := by rw [List.length_append]; exact wrap_next (n := s.size) (by omega) (by omega)
   rw [if_neg (by simp; omega), if_pos hx, if_neg (by simp; omega), if_pos hx, digit_wrap hd, e1, e2, e3]
   rw [go1_s_l01Number hs Q (D ++ [c]) (a * 10 + (c.toNat - 48)) F (by rw [e]; simp) (by rw [List.length_append]; exact acc_next ha (by omega)) (by simpa using hF)]
   rw [valF, if_pos hd]
  ·rw [valF, if_neg hd]
   by_cases h1 : c.toNat < 48
   ·rw [if_pos (by simpa using by omega)]
   ·have h2 : ¬ c.toNat ≤ 57 := fun h2 => hd (dgt_iff.2 ⟨by omega, h2⟩)
    rw [if_neg (by simp; omega), if_pos hx, if_pos (by simp; omega)]
def s_l01Number (s : ByteArray) : Int := match numL (toL s) with | some n => (n : Int) | none => -1
theorem tot_s_l01Number (s : ByteArray) : Fo_s_l01Number 1000000 s = some (s_l01Number s) := by
 unfold Fo_s_l01Number G_s_l01Number s_l01Number numL
 by_cases h0 : (toL s).length = 0
 ·rw [if_pos (by rw [size_toL, h0]; rfl), if_pos (Or.inl h0)]
 ·by_cases h9 : 9 < (toL s).length
  ·rw [if_neg (by intro q; have := eq_of_beq q; rw [size_toL] at this; omega), if_pos (by rw [size_toL]; simp; omega), if_pos (Or.inr (Or.inl h9))]
  ·have hs : s.size ≤ 9 := by rw [size_toL]; omega
   have g0 := go0_s_l01Number hs (toL s) [] 0 (1000000 + 100) rfl (by decide) (by omega)
   have g1 := go1_s_l01Number hs (toL s) [] 0 (1000000 + 100) rfl (by decide) (by omega)
   rw [if_neg (by intro q; have := eq_of_beq q; rw [size_toL] at this; omega), if_neg (by rw [size_toL]; simp; omega)]
   by_cases h1 : 1 < (toL s).length
   ·rw [if_pos (by rw [size_toL]; simp; omega), if_pos (by rw [size_toL]; simp; omega), data_getD]
    by_cases h2 : (toL s).getD 0 0 = 48
    ·rw [if_pos (by rw [h2]; rfl), if_pos (Or.inr (Or.inr ⟨h1, h2⟩))]
    ·rw [if_neg (fun q => h2 ((byte_eq (by decide) (by decide)).1 q)), if_neg (by rintro (q | q | q); exact h0 q; exact h9 q; exact h2 q.2)]
     refine Eq.trans g0 ?_
     cases valF 0 (toL s) <;> rfl
   ·rw [if_neg (by rw [size_toL]; simp; omega), if_neg (by rintro (q | q | q); exact h0 q; exact h9 q; exact h1 q.1)]
    refine Eq.trans g1 ?_
    cases valF 0 (toL s) <;> rfl
def run_s_l01Number : RunP
 | [.v (.string s)] => some (true, enc_i (s_l01Number s))
 | _ => none
theorem sound_s_l01Number : Sound prog 94 run_s_l01Number := by
 refine sound_1 de_i SO_s_l01Number (by kernel_rfl) func94 ntmps94 rfl (by kernel_rfl) fun q r E => ?_
 unfold run_s_l01Number at E
 split at E
 ·obtain ⟨hp, rfl⟩ := so2 E
  rename_i s
  exact ⟨_, _, rfl, (eq_s_l01Number _ s).trans (tot_s_l01Number s)⟩
 ·cases E

def S_s_l01Parts : Sums := ⟨tblS [(42, run_s_l01Split), (94, run_s_l01Number)], tblM [], false⟩
theorem SO_s_l01Parts : SumsOK prog S_s_l01Parts := ⟨tblS_ok ⟨⟨call42, sound_s_l01Split⟩, ⟨call94, sound_s_l01Number⟩, ⟨⟩⟩, tM⟩
def T_s_l01Parts_0 (text : ByteArray) (l8 : List Int) (m8 : Nat) (i : Int) : Tab := ⟨[.val (.string text), .junk, .val (.slice none 0 0), .row 28, .row 32, .val (.int .i64 i), .val (.string text), .row 28, .junk, .junk, .junk, .junk, .junk, .junk, .junk, .junk, .junk, .junk, .junk, .junk, .junk, .junk, .junk, .junk], [(28, .row 9 1 ((s_l01Split text 44).1) (.strs ((s_l01Split text 44).2))), (32, .row 2 1 m8 (.ints l8))]⟩
def X_s_l01Parts_0 (P : Program) (fu : Nat) (text : ByteArray) (f : Nat) (l8 : List Int) (m8 : Nat) (i : Int) : Option (Nat × List Int) := loopK (exec P S_s_l01Parts 24 (fun _ => fu + 100) (Code.sub [1, 1, 0, 1, 0, 0] (bodyF P 153))) f (T_s_l01Parts_0 text l8 m8 i) (kBlock 0 (kSeq (fun zs9 => exec P S_s_l01Parts 24 (fun _ => fu + 100) (Code.sub [1, 1, 1] (bodyF P 153)) zs9 (finT P 153 dec_l2_1)) (finT P 153 dec_l2_1)))
def B_s_l01Parts_0 (text : ByteArray) (rec0 : (List Int) → Nat → Int → Option (Nat × List Int)) (l8 : List Int) (m8 : Nat) (i : Int) : Option (Nat × List Int) :=
 (if (decide (i < (((s_l01Split text 44).1 : Nat) : Int))) = true then (if (decide (0 ≤ i) && decide (i < (((s_l01Split text 44).1 : Nat) : Int))) = true then (if (Nat.ble (i.toNat * 1 + 1) (((s_l01Split text 44).2).length)) = true then (if (Nat.ble 0 1 && Nat.ble (m8 + 1) 2000000 && Nat.beq 1 (1)) = true then rec0 (l8 ++ [(s_l01Number (((s_l01Split text 44).2).getD (i.toNat * 1) ByteArray.empty))]) (m8 + 1) (wI (i + 1)) else none) else none) else none) else some (m8, l8))
def L_s_l01Parts_0 (fu : Nat) (text : ByteArray) : Nat → (List Int) → Nat → Int → Option (Nat × List Int)
 | 0, _, _, _ => none
 | f + 1, l8, m8, i => B_s_l01Parts_0 text (L_s_l01Parts_0 fu text f) l8 m8 i
theorem loop_s_l01Parts_0 (fu : Nat) (text : ByteArray) : ∀ (f : Nat) (l8 : List Int) (m8 : Nat) (i : Int), X_s_l01Parts_0 prog fu text f l8 m8 i = L_s_l01Parts_0 fu text f l8 m8 i := by
 intro f
 induction f with
 | zero => intros; rfl
 | succ f ih =>
  intro l8 m8 i
  have h1 : X_s_l01Parts_0 prog fu text (f + 1) l8 m8 i = B_s_l01Parts_0 text (X_s_l01Parts_0 prog fu text f) l8 m8 i := by kernel_rfl
  have h2 : X_s_l01Parts_0 prog fu text f = L_s_l01Parts_0 fu text f := by funext l8 m8 i; exact ih l8 m8 i
  rw [h1, h2]
  rfl
def G_s_l01Parts (text : ByteArray) (lo0 : (List Int) → Nat → Int → Option (Nat × List Int)) : Option (Nat × List Int) :=
 (if (cutOK text 44) = true then lo0 [] 0 0 else none)
def Fo_s_l01Parts (fu : Nat) (text : ByteArray) : Option (Nat × List Int) := G_s_l01Parts text (L_s_l01Parts_0 fu text (fu + 100))
theorem eq_s_l01Parts (fu : Nat) (text : ByteArray) : eF fu S_s_l01Parts 153 24 dec_l2_1 [.v (.string text)] = Fo_s_l01Parts fu text := by
 have h1 : eF fu S_s_l01Parts 153 24 dec_l2_1 [.v (.string text)] = G_s_l01Parts text (X_s_l01Parts_0 prog fu text (fu + 100)) := by kernel_rfl
 have c0 : X_s_l01Parts_0 prog fu text (fu + 100) = L_s_l01Parts_0 fu text (fu + 100) := by funext l8 m8 i; exact loop_s_l01Parts_0 fu text (fu + 100) l8 m8 i
 rw [h1, c0]
 rfl
def numI (l : List UInt8) : Int := match numL l with | some n => (n : Int) | none => -1
theorem numI_of (s : ByteArray) : s_l01Number s = numI (toL s) := rfl
def s_l01Parts (text : ByteArray) : Nat × List Int := ((spL 44 (toL text)).length, (spL 44 (toL text)).map numI)
theorem parts_go {text : ByteArray} (ht : text.size ≤ 1048576) : ∀ (Q D : List (List UInt8)) (F : Nat), spL 44 (toL text) = D ++ Q → Q.length < F → L_s_l01Parts_0 2000000 text F (D.map numI) D.length (D.length : Int) = some (s_l01Parts text)
 | Q, D, 0, _, h => absurd h (Nat.not_lt_zero _)
 | [], D, F + 1, e, _ => by
  have e' : s_l01Split text 44 = ((spL 44 (toL text)).length, (spL 44 (toL text)).map bs) := rfl
  show B_s_l01Parts_0 text (L_s_l01Parts_0 2000000 text F) (D.map numI) D.length (D.length : Int) = _
  unfold B_s_l01Parts_0 s_l01Parts
  rw [e', e, if_neg (by simp)]
  simp
 | x :: Q, D, F + 1, e, hF => by
  have e' : s_l01Split text 44 = ((spL 44 (toL text)).length, (spL 44 (toL text)).map bs) := rfl
  have hl := spL_len 44 (toL text)
  have hl2 : (D ++ x :: Q).length ≤ 1048577 := by rw [← e]; rw [size_toL] at ht; omega
  simp only [List.length_append, List.length_cons] at hl2
  have hg : ((D ++ x :: Q).map bs).getD (D.length * 1) ByteArray.empty = bs x := by
   rw [Nat.mul_one, List.getD_eq_getElem?_getD, List.map_append, List.getElem?_append_right (by simp)]
   simp
  have hk : D.length < (D ++ x :: Q).length := by simp
  show B_s_l01Parts_0 text (L_s_l01Parts_0 2000000 text F) (D.map numI) D.length (D.length : Int) = _
  unfold B_s_l01Parts_0
  rw [e', e]
  dsimp only
  rw [if_pos (by simp; omega), if_pos (idx_in hk), if_pos (by rw [Int.toNat_natCast, List.length_map]; exact Nat.ble_eq_true_of_le (by omega)), Int.toNat_natCast, hg, if_pos (app_ok (by omega)), wrap_next hk (by simp; omega), numI_of, toL_bs]
  have ih := parts_go ht Q (D ++ [x]) F (by rw [e]; simp) (by simpa using hF)
  rw [List.map_append, List.length_append] at ih
  exact ih
theorem tot_s_l01Parts (text : ByteArray) (hp : (Nat.ble text.size 1048576) = true) : Fo_s_l01Parts 2000000 text = some (s_l01Parts text) := by
 have ht := Nat.le_of_ble_eq_true hp
 have h := parts_go ht (spL 44 (toL text)) [] (2000000 + 100) rfl (by have := spL_len 44 (toL text); rw [← size_toL] at this; omega)
 unfold Fo_s_l01Parts G_s_l01Parts
 rw [if_pos (by unfold cutOK; simp; omega)]
 exact h
def run_s_l01Parts : RunP
 | [.v (.string text)] => some (Nat.ble text.size 1048576, enc_l2_1 (s_l01Parts text))
 | _ => none
theorem sound_s_l01Parts : Sound prog 153 run_s_l01Parts := by
 refine sound_1 de_l2_1 SO_s_l01Parts (by kernel_rfl) func153 ntmps153 rfl (by kernel_rfl) fun q r E => ?_
 unfold run_s_l01Parts at E
 split at E
 ·obtain ⟨hp, rfl⟩ := so2 E
  rename_i text
  exact ⟨_, _, rfl, (eq_s_l01Parts _ text).trans (tot_s_l01Parts text hp)⟩
 ·cases E

def S_i_wordNumber : Sums := ⟨tblS [], tblM [], false⟩
theorem SO_i_wordNumber : SumsOK prog S_i_wordNumber := ⟨tblS_ok ⟨⟩, tM⟩
def T_i_wordNumber_0 (word : ByteArray) (j_n i : Int) : Tab := ⟨[.val (.string word), .junk, .val (.int .i64 0), .val (.bool false), .val (.int .i64 j_n), .val (.int .i64 i), .val (.string word), .val (.int .i64 ((word.size : Nat) : Int)), .val (.bool (decide (((word.size : Nat) : Int) < 1))), .val (.bool false), .val (.string word), .val (.int .i64 ((word.size : Nat) : Int)), .val (.bool (decide (((word.size : Nat) : Int) > 9))), .val (.bool (decide (((word.size : Nat) : Int) > 9))), .val (.bool false), .val (.string word), .val (.int .i64 ((word.size : Nat) : Int)), .val (.bool (decide (((word.size : Nat) : Int) > 1))), .val (.bool true), .val (.string word), .val (.int .u8 ((word.data.getD 0 0).toNat : Int)), .val (.bool (((word.data.getD 0 0).toNat : Int) == 48)), .val (.bool (((word.data.getD 0 0).toNat : Int) == 48)), .val (.bool (((word.data.getD 0 0).toNat : Int) == 48)), .junk, .junk, .junk, .junk, .junk, .junk, .junk, .junk, .junk, .junk, .junk, .junk, .junk, .junk, .junk, .junk, .junk, .junk, .junk, .junk, .junk, .junk, .junk, .junk, .junk], []⟩
def T_i_wordNumber_1 (word : ByteArray) (j_n i : Int) : Tab := ⟨[.val (.string word), .junk, .val (.int .i64 0), .val (.bool false), .val (.int .i64 j_n), .val (.int .i64 i), .val (.string word), .val (.int .i64 ((word.size : Nat) : Int)), .val (.bool (decide (((word.size : Nat) : Int) < 1))), .val (.bool false), .val (.string word), .val (.int .i64 ((word.size : Nat) : Int)), .val (.bool (decide (((word.size : Nat) : Int) > 9))), .val (.bool (decide (((word.size : Nat) : Int) > 9))), .val (.bool false), .val (.string word), .val (.int .i64 ((word.size : Nat) : Int)), .val (.bool (decide (((word.size : Nat) : Int) > 1))), .val (.bool false), .val (undef), .val (undef), .val (undef), .val (.bool false), .val (.bool false), .junk, .junk, .junk, .junk, .junk, .junk, .junk, .junk, .junk, .junk, .junk, .junk, .junk, .junk, .junk, .junk, .junk, .junk, .junk, .junk, .junk, .junk, .junk, .junk, .junk], []⟩
def X_i_wordNumber_0 (P : Program) (fu : Nat) (word : ByteArray) (f : Nat) (j_n i : Int) : Option (Int × Bool) := loopK (exec P S_i_wordNumber 49 (fun _ => fu + 100) (Code.sub [1, 1, 1, 0, 1, 0, 0] (bodyF P 63))) f (T_i_wordNumber_0 word j_n i) (kBlock 0 (kSeq (fun zs9 => exec P S_i_wordNumber 49 (fun _ => fu + 100) (Code.sub [1, 1, 1, 1] (bodyF P 63)) zs9 (finT P 63 dec_i_b)) (finT P 63 dec_i_b)))
def B_i_wordNumber_0 (word : ByteArray) (rec0 : Int → Int → Option (Int × Bool)) (j_n i : Int) : Option (Int × Bool) :=
 (if (decide (i < ((word.size : Nat) : Int))) = true then (if (decide (0 ≤ i) && decide (i < ((word.size : Nat) : Int))) = true then (if (decide (((word.data.getD i.toNat 0).toNat : Int) < 48)) = true then some (0, false) else (if (decide (0 ≤ i) && decide (i < ((word.size : Nat) : Int))) = true then (if (decide (((word.data.getD i.toNat 0).toNat : Int) > 57)) = true then some (0, false) else (if (decide (0 ≤ i) && decide (i < ((word.size : Nat) : Int))) = true then rec0 (wI ((wI (10 * j_n)) + (wI (IntKind.u8.wrap (((word.data.getD i.toNat 0).toNat : Int) - 48))))) (wI (i + 1)) else none)) else none)) else none) else some (j_n, true))
def L_i_wordNumber_0 (fu : Nat) (word : ByteArray) : Nat → Int → Int → Option (Int × Bool)
 | 0, _, _ => none
 | f + 1, j_n, i => B_i_wordNumber_0 word (L_i_wordNumber_0 fu word f) j_n i
theorem loop_i_wordNumber_0 (fu : Nat) (word : ByteArray) : ∀ (f : Nat) (j_n i : Int), X_i_wordNumber_0 prog fu word f j_n i = L_i_wordNumber_0 fu word f j_n i := by
 intro f
 induction f with
 | zero => intros; rfl
 | succ f ih =>
  intro j_n i
  have h1 : X_i_wordNumber_0 prog fu word (f + 1) j_n i = B_i_wordNumber_0 word (X_i_wordNumber_0 prog fu word f) j_n i := by kernel_rfl
  have h2 : X_i_wordNumber_0 prog fu word f = L_i_wordNumber_0 fu word f := by funext j_n i; exact ih j_n i
  rw [h1, h2]
  rfl
def X_i_wordNumber_1 (P : Program) (fu : Nat) (word : ByteArray) (f : Nat) (j_n i : Int) : Option (Int × Bool) := loopK (exec P S_i_wordNumber 49 (fun _ => fu + 100) (Code.sub [1, 1, 1, 0, 1, 0, 0] (bodyF P 63))) f (T_i_wordNumber_1 word j_n i) (kBlock 0 (kSeq (fun zs9 => exec P S_i_wordNumber 49 (fun _ => fu + 100) (Code.sub [1, 1, 1, 1] (bodyF P 63)) zs9 (finT P 63 dec_i_b)) (finT P 63 dec_i_b)))
def B_i_wordNumber_1 (word : ByteArray) (rec1 : Int → Int → Option (Int × Bool)) (j_n i : Int) : Option (Int × Bool) :=
 (if (decide (i < ((word.size : Nat) : Int))) = true then (if (decide (0 ≤ i) && decide (i < ((word.size : Nat) : Int))) = true then (if (decide (((word.data.getD i.toNat 0).toNat : Int) < 48)) = true then some (0, false) else (if (decide (0 ≤ i) && decide (i < ((word.size : Nat) : Int))) = true then (if (decide (((word.data.getD i.toNat 0).toNat : Int) > 57)) = true then some (0, false) else (if (decide (0 ≤ i) && decide (i < ((word.size : Nat) : Int))) = true then rec1 (wI ((wI (10 * j_n)) + (wI (IntKind.u8.wrap (((word.data.getD i.toNat 0).toNat : Int) - 48))))) (wI (i + 1)) else none)) else none)) else none) else some (j_n, true))
def L_i_wordNumber_1 (fu : Nat) (word : ByteArray) : Nat → Int → Int → Option (Int × Bool)
 | 0, _, _ => none
 | f + 1, j_n, i => B_i_wordNumber_1 word (L_i_wordNumber_1 fu word f) j_n i
theorem loop_i_wordNumber_1 (fu : Nat) (word : ByteArray) : ∀ (f : Nat) (j_n i : Int), X_i_wordNumber_1 prog fu word f j_n i = L_i_wordNumber_1 fu word f j_n i := by
 intro f
 induction f with
 | zero => intros; rfl
 | succ f ih =>
  intro j_n i
  have h1 : X_i_wordNumber_1 prog fu word (f + 1) j_n i = B_i_wordNumber_1 word (X_i_wordNumber_1 prog fu word f) j_n i := by kernel_rfl
  have h2 : X_i_wordNumber_1 prog fu word f = L_i_wordNumber_1 fu word f := by funext j_n i; exact ih j_n i
  rw [h1, h2]
  rfl
def G_i_wordNumber (word : ByteArray) (lo0 : Int → Int → Option (Int × Bool)) (lo1 : Int → Int → Option (Int × Bool)) : Option (Int × Bool) :=
 (if (decide (((word.size : Nat) : Int) < 1)) = true then some (0, false) else (if (decide (((word.size : Nat) : Int) > 9)) = true then some (0, false) else (if (decide (((word.size : Nat) : Int) > 1)) = true then (if (decide (0 ≤ 0) && decide (0 < ((word.size : Nat) : Int))) = true then (if (((word.data.getD 0 0).toNat : Int) == 48) = true then some (0, false) else lo0 0 0) else none) else lo1 0 0)))
def Fo_i_wordNumber (fu : Nat) (word : ByteArray) : Option (Int × Bool) := G_i_wordNumber word (L_i_wordNumber_0 fu word (fu + 100)) (L_i_wordNumber_1 fu word (fu + 100))
theorem eq_i_wordNumber (fu : Nat) (word : ByteArray) : eF fu S_i_wordNumber 63 49 dec_i_b [.v (.string word)] = Fo_i_wordNumber fu word := by
 have h1 : eF fu S_i_wordNumber 63 49 dec_i_b [.v (.string word)] = G_i_wordNumber word (X_i_wordNumber_0 prog fu word (fu + 100)) (X_i_wordNumber_1 prog fu word (fu + 100)) := by kernel_rfl
 have c0 : X_i_wordNumber_0 prog fu word (fu + 100) = L_i_wordNumber_0 fu word (fu + 100) := by funext j_n i; exact loop_i_wordNumber_0 fu word (fu + 100) j_n i
 have c1 : X_i_wordNumber_1 prog fu word (fu + 100) = L_i_wordNumber_1 fu word (fu + 100) := by funext j_n i; exact loop_i_wordNumber_1 fu word (fu + 100) j_n i
 rw [h1, c0, c1]
 rfl
theorem go0_i_wordNumber {word : ByteArray} (hs : word.size ≤ 9) : ∀ (Q D : List UInt8) (a F : Nat), toL word = D ++ Q → a < 10 ^ D.length → Q.length < F → L_i_wordNumber_0 1000000 word F (a : Int) (D.length : Int) = (match valF a Q with | some n => some ((n : Int), true) | none => some (0, false))
 | Q, D, a, 0, _, _, h => absurd h (Nat.not_lt_zero _)
 | [], D, a, F + 1, e, _, _ => by
  have hsz : word.size = D.length := by rw [size_toL, e]; simp
  show B_i_wordNumber_0 word (L_i_wordNumber_0 1000000 word F) (a : Int) (D.length : Int) = _
  unfold B_i_wordNumber_0
  rw [if_neg (by rw [hsz]; simp)]
  rfl
 | c :: Q, D, a, F + 1, e, ha, hF => by
  have hsz : word.size = D.length + (Q.length + 1) := by rw [size_toL, e]; simp
  have hc := at_mid e
  have hp := pow9 (k := D.length) (by omega)
  have hx : (decide (0 ≤ (D.length : Int)) && decide ((D.length : Int) < ((word.size : Nat) : Int))) = true := by rw [hsz]; simp; omega
  show B_i_wordNumber_0 word (L_i_wordNumber_0 1000000 word F) (a : Int) (D.length : Int) = _
  unfold B_i_wordNumber_0
  rw [if_pos (by rw [hsz]; simp; omega), if_pos hx, Int.toNat_natCast, hc]
  by_cases hd : dgt c = true
  ·obtain ⟨d1, d2⟩ := dgt_iff.1 hd
   have e1 : wI (10 * (a : Int)) = ((a * 10 : Nat) : Int) := by rw [wI_eq]; unfold wrap64; omega
   have e2 : wI (((a * 10 : Nat) : Int) + ((c.toNat - 48 : Nat) : Int)) = ((a * 10 + (c.toNat - 48) : Nat) : Int) := by rw [wI_eq]; unfold wrap64; omega
   have e3 : wI ((D.length : Int) + 1) = (((D ++ [c]).length : Nat) : Int) := by rw [List.length_append]; exact wrap_next (n := word.size) (by omega) (by omega)
   rw [if_neg (by simp; omega), if_pos hx, if_neg (by simp; omega), if_pos hx, digit_wrap hd, e1, e2, e3]
   rw [go0_i_wordNumber hs Q (D ++ [c]) (a * 10 + (c.toNat - 48)) F (by rw [e]; simp) (by rw [List.length_append]; exact acc_next ha (by omega)) (by simpa using hF)]
   rw [valF, if_pos hd]
  ·rw [valF, if_neg hd]
   by_cases h1 : c.toNat < 48
   ·rw [if_pos (by simpa using by omega)]
   ·have h2 : ¬ c.toNat ≤ 57 := fun h2 => hd (dgt_iff.2 ⟨by omega, h2⟩)
    rw [if_neg (by simp; omega), if_pos hx, if_pos (by simp; omega)]
theorem go1_i_wordNumber {word : ByteArray} (hs : word.size ≤ 9) : ∀ (Q D : List UInt8) (a F : Nat), toL word = D ++ Q → a < 10 ^ D.length → Q.length < F → L_i_wordNumber_1 1000000 word F (a : Int) (D.length : Int) = (match valF a Q with | some n => some ((n : Int), true) | none => some (0, false))
 | Q, D, a, 0, _, _, h => absurd h (Nat.not_lt_zero _)
 | [], D, a, F + 1, e, _, _ => by
  have hsz : word.size = D.length := by rw [size_toL, e]; simp
  show B_i_wordNumber_1 word (L_i_wordNumber_1 1000000 word F) (a : Int) (D.length : Int) = _
  unfold B_i_wordNumber_1
  rw [if_neg (by rw [hsz]; simp)]
  rfl
 | c :: Q, D, a, F + 1, e, ha, hF => by
  have hsz : word.size = D.length + (Q.length + 1) := by rw [size_toL, e]; simp
  have hc := at_mid e
  have hp := pow9 (k := D.length) (by omega)
  have hx : (decide (0 ≤ (D.length : Int)) && decide ((D.length : Int) < ((word.size : Nat) : Int))) = true := by rw [hsz]; simp; omega
  show B_i_wordNumber_1 word (L_i_wordNumber_1 1000000 word F) (a : Int) (D.length : Int) = _
  unfold B_i_wordNumber_1
  rw [if_pos (by rw [hsz]; simp; omega), if_pos hx, Int.toNat_natCast, hc]
  by_cases hd : dgt c = true
  ·obtain ⟨d1, d2⟩ := dgt_iff.1 hd
   have e1 : wI (10 * (a : Int)) = ((a * 10 : Nat) : Int) := by rw [wI_eq]; unfold wrap64; omega
   have e2 : wI (((a * 10 : Nat) : Int) + ((c.toNat - 48 : Nat) : Int)) = ((a * 10 + (c.toNat - 48) : Nat) : Int) := by rw [wI_eq]; unfold wrap64; omega
   have e3 : wI ((D.length : Int) + 1) = (((D ++ [c]).length : Nat) : Int) := by rw [List.length_append]; exact wrap_next (n := word.size) (by omega) (by omega)
   rw [if_neg (by simp; omega), if_pos hx, if_neg (by simp; omega), if_pos hx, digit_wrap hd, e1, e2, e3]
   rw [go1_i_wordNumber hs Q (D ++ [c]) (a * 10 + (c.toNat - 48)) F (by rw [e]; simp) (by rw [List.length_append]; exact acc_next ha (by omega)) (by simpa using hF)]
   rw [valF, if_pos hd]
  ·rw [valF, if_neg hd]
   by_cases h1 : c.toNat < 48
   ·rw [if_pos (by simpa using by omega)]
   ·have h2 : ¬ c.toNat ≤ 57 := fun h2 => hd (dgt_iff.2 ⟨by omega, h2⟩)
    rw [if_neg (by simp; omega), if_pos hx, if_pos (by simp; omega)]
def i_wordNumber (word : ByteArray) : Int × Bool := match numL (toL word) with | some n => ((n : Int), true) | none => (0, false)
theorem tot_i_wordNumber (word : ByteArray) : Fo_i_wordNumber 1000000 word = some (i_wordNumber word) := by
 unfold Fo_i_wordNumber G_i_wordNumber i_wordNumber numL
 by_cases h0 : (toL word).length = 0
 ·rw [if_pos (by rw [size_toL, h0]; rfl), if_pos (Or.inl h0)]
 ·by_cases h9 : 9 < (toL word).length
  ·rw [if_neg (by rw [size_toL]; simp; omega), if_pos (by rw [size_toL]; simp; omega), if_pos (Or.inr (Or.inl h9))]
  ·have hs : word.size ≤ 9 := by rw [size_toL]; omega
   have g0 := go0_i_wordNumber hs (toL word) [] 0 (1000000 + 100) rfl (by decide) (by omega)
   have g1 := go1_i_wordNumber hs (toL word) [] 0 (1000000 + 100) rfl (by decide) (by omega)
   rw [if_neg (by rw [size_toL]; simp; omega), if_neg (by rw [size_toL]; simp; omega)]
   by_cases h1 : 1 < (toL word).length
   ·rw [if_pos (by rw [size_toL]; simp; omega), if_pos (by rw [size_toL]; simp; omega), data_getD]
    by_cases h2 : (toL word).getD 0 0 = 48
    ·rw [if_pos (by rw [h2]; rfl), if_pos (Or.inr (Or.inr ⟨h1, h2⟩))]
    ·rw [if_neg (fun q => h2 ((byte_eq (by decide) (by decide)).1 q)), if_neg (by rintro (q | q | q); exact h0 q; exact h9 q; exact h2 q.2)]
     refine Eq.trans g0 ?_
     cases valF 0 (toL word) <;> rfl
   ·rw [if_neg (by rw [size_toL]; simp; omega), if_neg (by rintro (q | q | q); exact h0 q; exact h9 q; exact h1 q.1)]
    refine Eq.trans g1 ?_
    cases valF 0 (toL word) <;> rfl
def run_i_wordNumber : RunP
 | [.v (.string word)] => some (true, enc_i_b (i_wordNumber word))
 | _ => none
theorem sound_i_wordNumber : Sound prog 63 run_i_wordNumber := by
 refine sound_1 de_i_b SO_i_wordNumber (by kernel_rfl) func63 ntmps63 rfl (by kernel_rfl) fun q r E => ?_
 unfold run_i_wordNumber at E
 split at E
 ·obtain ⟨hp, rfl⟩ := so2 E
  rename_i word
  exact ⟨_, _, rfl, (eq_i_wordNumber _ word).trans (tot_i_wordNumber word)⟩
 ·cases E

def S_s_l01Joined : Sums := ⟨tblS [(46, run_s_l01Dec)], tblM [], false⟩
theorem SO_s_l01Joined : SumsOK prog S_s_l01Joined := ⟨tblS_ok ⟨⟨call46, sound_s_l01Dec⟩, ⟨⟩⟩, tM⟩
def T_s_l01Joined_0 (listn : Nat) (listl : List Int) (text : ByteArray) (i : Int) : Tab := ⟨[.row 0, .junk, .val (.string (bs [])), .val (.string text), .val (.int .i64 i), .junk, .junk, .junk, .junk, .junk, .junk, .junk, .junk, .junk, .junk, .junk, .junk, .junk, .junk, .junk, .junk, .junk, .junk], [(0, .ros listn (.ints listl))]⟩
def X_s_l01Joined_0 (P : Program) (fu listn : Nat) (listl : List Int) (f : Nat) (text : ByteArray) (i : Int) : Option (ByteArray) := loopK (exec P S_s_l01Joined 23 (fun _ => fu + 100) (Code.sub [1, 1, 0, 1, 0, 0] (bodyF P 101))) f (T_s_l01Joined_0 listn listl text i) (kBlock 0 (kSeq (fun zs9 => exec P S_s_l01Joined 23 (fun _ => fu + 100) (Code.sub [1, 1, 1] (bodyF P 101)) zs9 (finT P 101 dec_s)) (finT P 101 dec_s)))
def B_s_l01Joined_0 (listn : Nat) (listl : List Int) (rec0 : ByteArray → Int → Option (ByteArray)) (text : ByteArray) (i : Int) : Option (ByteArray) :=
 (if (decide (i < ((listn : Nat) : Int))) = true then (if (decide (i > 0)) = true then (if (Nat.ble (text.size + (bs [44]).size) 9223372036854775807) = true then (if (decide (0 ≤ i) && decide (i < ((listn : Nat) : Int))) = true then (if (Nat.ble (i.toNat * 1 + 1) listl.length) = true then (if (decOK (listl.getD (i.toNat * 1) 0)) = true then (if (Nat.ble ((text ++ (bs [44])).size + (s_l01Dec (listl.getD (i.toNat * 1) 0)).size) 9223372036854775807) = true then rec0 ((text ++ (bs [44])) ++ (s_l01Dec (listl.getD (i.toNat * 1) 0))) (wI (i + 1)) else none) else none) else none) else none) else none) else (if (decide (0 ≤ i) && decide (i < ((listn : Nat) : Int))) = true then (if (Nat.ble (i.toNat * 1 + 1) listl.length) = true then (if (decOK (listl.getD (i.toNat * 1) 0)) = true then (if (Nat.ble (text.size + (s_l01Dec (listl.getD (i.toNat * 1) 0)).size) 9223372036854775807) = true then rec0 (text ++ (s_l01Dec (listl.getD (i.toNat * 1) 0))) (wI (i + 1)) else none) else none) else none) else none)) else some text)
def L_s_l01Joined_0 (fu listn : Nat) (listl : List Int) : Nat → ByteArray → Int → Option (ByteArray)
 | 0, _, _ => none
 | f + 1, text, i => B_s_l01Joined_0 listn listl (L_s_l01Joined_0 fu listn listl f) text i
theorem loop_s_l01Joined_0 (fu listn : Nat) (listl : List Int) : ∀ (f : Nat) (text : ByteArray) (i : Int), X_s_l01Joined_0 prog fu listn listl f text i = L_s_l01Joined_0 fu listn listl f text i := by
 intro f
 induction f with
 | zero => intros; rfl
 | succ f ih =>
  intro text i
  have h1 : X_s_l01Joined_0 prog fu listn listl (f + 1) text i = B_s_l01Joined_0 listn listl (X_s_l01Joined_0 prog fu listn listl f) text i := by kernel_rfl
  have h2 : X_s_l01Joined_0 prog fu listn listl f = L_s_l01Joined_0 fu listn listl f := by funext text i; exact ih text i
  rw [h1, h2]
  rfl
def G_s_l01Joined (listn : Nat) (listl : List Int) (lo0 : ByteArray → Int → Option (ByteArray)) : Option (ByteArray) :=
 lo0 (bs []) 0
def Fo_s_l01Joined (fu listn : Nat) (listl : List Int) : Option (ByteArray) := G_s_l01Joined listn listl (L_s_l01Joined_0 fu listn listl (fu + 100))
theorem eq_s_l01Joined (fu listn : Nat) (listl : List Int) : eF fu S_s_l01Joined 101 23 dec_s [.s listn (.ints listl)] = Fo_s_l01Joined fu listn listl := by
 have h1 : eF fu S_s_l01Joined 101 23 dec_s [.s listn (.ints listl)] = G_s_l01Joined listn listl (X_s_l01Joined_0 prog fu listn listl (fu + 100)) := by kernel_rfl
 have c0 : X_s_l01Joined_0 prog fu listn listl (fu + 100) = L_s_l01Joined_0 fu listn listl (fu + 100) := by funext text i; exact loop_s_l01Joined_0 fu listn listl (fu + 100) text i
 rw [h1, c0]
 rfl
theorem lo_s_l01Joined {listn : Nat} {listl : List Int} (hp : (nlB listn listl) = true) {F : Nat} (hF : listn < F) : L_s_l01Joined_0 1000000 listn listl F (bs []) 0 = some (bs (jn (toL (bs [44])) ((List.range listn).map fun q => toL ((fun q => s_l01Dec (listl.getD (q * 1) 0)) q)))) := by
 have hp' := hp
 unfold nlB at hp'
 simp only [Bool.and_eq_true] at hp'
 obtain ⟨h1, h2, h3⟩ := hp'
 have hl := (lenB_ok h1).1
 have hn : listn ≤ 100000 := Nat.le_of_ble_eq_true h3
 have hd : ∀ k, k < listn → decOK (listl.getD (k * 1) 0) = true := fun k hk => all_getD h2 (by omega)
 have hi : ∀ k, k < listn → (s_l01Dec (listl.getD (k * 1) 0)).size ≤ 200 := fun k hk => Nat.le_trans (sizeD (hd k hk)) (by decide)
 refine acc_loop (L := fun f out i => L_s_l01Joined_0 1000000 listn listl f out i) (item := (fun q => s_l01Dec (listl.getD (q * 1) 0))) (sep := bs [44]) (n := listn) (M := 200) (by decide) (by decide) hn hF hi (fun f out k hk hz => ?_) (fun f out => ?_)
 ·have hq := hi k hk
  show B_s_l01Joined_0 listn listl (L_s_l01Joined_0 1000000 listn listl f) out (k : Int) = _
  unfold B_s_l01Joined_0
  rw [if_pos (by simpa using hk)]
  by_cases h0 : k = 0
  ·rw [if_neg (by simp; omega), if_pos (idx_in hk), if_pos (by rw [Int.toNat_natCast]; exact Nat.ble_eq_true_of_le (by omega)), Int.toNat_natCast, if_pos (hd k hk), if_pos (cat_ok (by omega) (Nat.le_trans hq (by decide))), wrap_next hk (by omega), if_pos h0]
  ·rw [if_pos (by simp; omega), if_pos (cat_ok (by omega) (by have : (bs [44]).size ≤ 10 := (by decide); omega)), if_pos (idx_in hk), if_pos (by rw [Int.toNat_natCast]; exact Nat.ble_eq_true_of_le (by omega)), Int.toNat_natCast, if_pos (hd k hk), if_pos (cat_ok (by rw [size_app]; have : (bs [44]).size ≤ 10 := (by decide); omega) (Nat.le_trans hq (by decide))), wrap_next hk (by omega), if_neg h0]
 ·show B_s_l01Joined_0 listn listl (L_s_l01Joined_0 1000000 listn listl f) out ((listn : Nat) : Int) = _
  unfold B_s_l01Joined_0
  rw [if_neg (by simp)]
def s_l01Joined (listn : Nat) (listl : List Int) : ByteArray := bs (jn [44] ((List.range listn).map fun q => decL (listl.getD (q * 1) 0).toNat))
theorem tot_s_l01Joined (listn : Nat) (listl : List Int) (hp : (nlB listn listl) = true) : Fo_s_l01Joined 1000000 listn listl = some (s_l01Joined listn listl) := by
 have hn : listn ≤ 100000 := by
  unfold nlB at hp
  simp only [Bool.and_eq_true] at hp
  exact Nat.le_of_ble_eq_true hp.2.2
 unfold Fo_s_l01Joined G_s_l01Joined
 exact lo_s_l01Joined hp (by omega)
def run_s_l01Joined : RunP
 | [.s listn (.ints listl)] => some (nlB listn listl, enc_s (s_l01Joined listn listl))
 | _ => none
theorem sound_s_l01Joined : Sound prog 101 run_s_l01Joined := by
 refine sound_1 de_s SO_s_l01Joined (by kernel_rfl) func101 ntmps101 rfl (by kernel_rfl) fun q r E => ?_
 unfold run_s_l01Joined at E
 split at E
 ·obtain ⟨hp, rfl⟩ := so2 E
  rename_i listn listl
  exact ⟨_, _, rfl, (eq_s_l01Joined _ listn listl).trans (tot_s_l01Joined listn listl hp)⟩
 ·cases E

def S_s_l11Point : Sums := ⟨tblS [(101, run_s_l01Joined)], tblM [], false⟩
theorem SO_s_l11Point : SumsOK prog S_s_l11Point := ⟨tblS_ok ⟨⟨call101, sound_s_l01Joined⟩, ⟨⟩⟩, tM⟩
def Fo_s_l11Point (a : P2) : Option (ByteArray) :=
 (if (nlB 2 [a.1, a.2]) = true then some (s_l01Joined 2 [a.1, a.2]) else none)
theorem eq_s_l11Point (a : P2) : eT S_s_l11Point 48 9 dec_s [pA a] = Fo_s_l11Point a := by
 kernel_rfl
def s_l11Point (a : P2) : ByteArray := bs (jn [44] [decL a.1.toNat, decL a.2.toNat])
theorem tot_s_l11Point (a : P2) (hp : (num2 a) = true) : Fo_s_l11Point a = some (s_l11Point a) := by
 unfold Fo_s_l11Point
 rw [if_pos (num2_nl hp)]
 rfl
def run_s_l11Point : RunP
 | [.v (.agg ⟨[.int .i64 a0, .int .i64 a1]⟩)] => some (num2 (a0, a1), enc_s (s_l11Point (a0, a1)))
 | _ => none
theorem sound_s_l11Point : Sound prog 48 run_s_l11Point := by
 refine sound_1 de_s SO_s_l11Point (by kernel_rfl) func48 ntmps48 rfl (by kernel_rfl) fun q r E => ?_
 unfold run_s_l11Point at E
 split at E
 ·obtain ⟨hp, rfl⟩ := so2 E
  rename_i a0 a1
  exact ⟨_, _, rfl, (eq_s_l11Point (a0, a1)).trans (tot_s_l11Point (a0, a1) hp)⟩
 ·cases E

def S_s_l11Texts : Sums := ⟨tblS [], tblM [], false⟩
theorem SO_s_l11Texts : SumsOK prog S_s_l11Texts := ⟨tblS_ok ⟨⟩, tM⟩
def T_s_l11Texts_0 (listn : Nat) (listl : List ByteArray) (out : ByteArray) (i : Int) : Tab := ⟨[.row 0, .junk, .val (.string (bs [])), .val (.string out), .val (.int .i64 i), .row 0, .val (.int .i64 ((listn : Nat) : Int)), .val (.bool (((listn : Nat) : Int) == 0)), .junk, .junk, .junk, .junk, .junk, .junk, .junk, .junk, .junk, .junk, .junk, .junk, .junk, .junk, .junk, .junk, .junk], [(0, .ros listn (.strs listl))]⟩
def X_s_l11Texts_0 (P : Program) (fu listn : Nat) (listl : List ByteArray) (f : Nat) (out : ByteArray) (i : Int) : Option (ByteArray) := loopK (exec P S_s_l11Texts 25 (fun _ => fu + 100) (Code.sub [1, 1, 1, 0, 1, 0, 0] (bodyF P 179))) f (T_s_l11Texts_0 listn listl out i) (kBlock 0 (kSeq (fun zs9 => exec P S_s_l11Texts 25 (fun _ => fu + 100) (Code.sub [1, 1, 1, 1] (bodyF P 179)) zs9 (finT P 179 dec_s)) (finT P 179 dec_s)))
def B_s_l11Texts_0 (listn : Nat) (listl : List ByteArray) (rec0 : ByteArray → Int → Option (ByteArray)) (out : ByteArray) (i : Int) : Option (ByteArray) :=
 (if (decide (i < ((listn : Nat) : Int))) = true then (if (decide (i > 0)) = true then (if (Nat.ble (out.size + (bs [32]).size) 9223372036854775807) = true then (if (decide (0 ≤ i) && decide (i < ((listn : Nat) : Int))) = true then (if (Nat.ble (i.toNat * 1 + 1) listl.length) = true then (if (Nat.ble ((out ++ (bs [32])).size + (listl.getD (i.toNat * 1) ByteArray.empty).size) 9223372036854775807) = true then rec0 ((out ++ (bs [32])) ++ (listl.getD (i.toNat * 1) ByteArray.empty)) (wI (i + 1)) else none) else none) else none) else none) else (if (decide (0 ≤ i) && decide (i < ((listn : Nat) : Int))) = true then (if (Nat.ble (i.toNat * 1 + 1) listl.length) = true then (if (Nat.ble (out.size + (listl.getD (i.toNat * 1) ByteArray.empty).size) 9223372036854775807) = true then rec0 (out ++ (listl.getD (i.toNat * 1) ByteArray.empty)) (wI (i + 1)) else none) else none) else none)) else some out)
def L_s_l11Texts_0 (fu listn : Nat) (listl : List ByteArray) : Nat → ByteArray → Int → Option (ByteArray)
 | 0, _, _ => none
 | f + 1, out, i => B_s_l11Texts_0 listn listl (L_s_l11Texts_0 fu listn listl f) out i
theorem loop_s_l11Texts_0 (fu listn : Nat) (listl : List ByteArray) : ∀ (f : Nat) (out : ByteArray) (i : Int), X_s_l11Texts_0 prog fu listn listl f out i = L_s_l11Texts_0 fu listn listl f out i := by
 intro f
 induction f with
 | zero => intros; rfl
 | succ f ih =>
  intro out i
  have h1 : X_s_l11Texts_0 prog fu listn listl (f + 1) out i = B_s_l11Texts_0 listn listl (X_s_l11Texts_0 prog fu listn listl f) out i := by kernel_rfl
  have h2 : X_s_l11Texts_0 prog fu listn listl f = L_s_l11Texts_0 fu listn listl f := by funext out i; exact ih out i
  rw [h1, h2]
  rfl
def G_s_l11Texts (listn : Nat) (listl : List ByteArray) (lo0 : ByteArray → Int → Option (ByteArray)) : Option (ByteArray) :=
 (if (((listn : Nat) : Int) == 0) = true then some (bs [110, 111, 110, 101]) else lo0 (bs []) 0)
def Fo_s_l11Texts (fu listn : Nat) (listl : List ByteArray) : Option (ByteArray) := G_s_l11Texts listn listl (L_s_l11Texts_0 fu listn listl (fu + 100))
theorem eq_s_l11Texts (fu listn : Nat) (listl : List ByteArray) : eF fu S_s_l11Texts 179 25 dec_s [.s listn (.strs listl)] = Fo_s_l11Texts fu listn listl := by
 have h1 : eF fu S_s_l11Texts 179 25 dec_s [.s listn (.strs listl)] = G_s_l11Texts listn listl (X_s_l11Texts_0 prog fu listn listl (fu + 100)) := by kernel_rfl
 have c0 : X_s_l11Texts_0 prog fu listn listl (fu + 100) = L_s_l11Texts_0 fu listn listl (fu + 100) := by funext out i; exact loop_s_l11Texts_0 fu listn listl (fu + 100) out i
 rw [h1, c0]
 rfl
theorem lo_s_l11Texts {listn : Nat} {listl : List ByteArray} (hp : (txB listn listl) = true) {F : Nat} (hF : listn < F) : L_s_l11Texts_0 1000000 listn listl F (bs []) 0 = some (bs (jn (toL (bs [32])) ((List.range listn).map fun q => toL ((fun q => listl.getD (q * 1) ByteArray.empty) q)))) := by
 have hp' := hp
 unfold txB lenT at hp'
 simp only [Bool.and_eq_true] at hp'
 obtain ⟨h1, h2, h3⟩ := hp'
 have hl : listl.length = listn := Nat.eq_of_beq_eq_true h1
 have hn : listn ≤ 100000 := Nat.le_of_ble_eq_true h3
 have hi : ∀ k, k < listn → (listl.getD (k * 1) ByteArray.empty).size ≤ 200 := fun k hk => by
  rw [List.getD_eq_getElem?_getD, List.getElem?_eq_getElem (by omega)]
  exact Nat.le_of_ble_eq_true (List.all_eq_true.1 h2 _ (List.getElem_mem _))
 refine acc_loop (L := fun f out i => L_s_l11Texts_0 1000000 listn listl f out i) (item := (fun q => listl.getD (q * 1) ByteArray.empty)) (sep := bs [32]) (n := listn) (M := 200) (by decide) (by decide) hn hF hi (fun f out k hk hz => ?_) (fun f out => ?_)
 ·have hq := hi k hk
  show B_s_l11Texts_0 listn listl (L_s_l11Texts_0 1000000 listn listl f) out (k : Int) = _
  unfold B_s_l11Texts_0
  rw [if_pos (by simpa using hk)]
  by_cases h0 : k = 0
  ·rw [if_neg (by simp; omega), if_pos (idx_in hk), if_pos (by rw [Int.toNat_natCast]; exact Nat.ble_eq_true_of_le (by omega)), Int.toNat_natCast, if_pos (cat_ok (by omega) (Nat.le_trans hq (by decide))), wrap_next hk (by omega), if_pos h0]
  ·rw [if_pos (by simp; omega), if_pos (cat_ok (by omega) (by have : (bs [32]).size ≤ 10 := (by decide); omega)), if_pos (idx_in hk), if_pos (by rw [Int.toNat_natCast]; exact Nat.ble_eq_true_of_le (by omega)), Int.toNat_natCast, if_pos (cat_ok (by rw [size_app]; have : (bs [32]).size ≤ 10 := (by decide); omega) (Nat.le_trans hq (by decide))), wrap_next hk (by omega), if_neg h0]
 ·show B_s_l11Texts_0 listn listl (L_s_l11Texts_0 1000000 listn listl f) out ((listn : Nat) : Int) = _
  unfold B_s_l11Texts_0
  rw [if_neg (by simp)]
theorem range_getD {T : Type} (d : T) (l : List T) : (List.range l.length).map (fun q => l.getD (q * 1) d) = l := by
 apply List.ext_getElem (by simp)
 intro i h1 h2
 simp [List.getD_eq_getElem?_getD, h2]
def s_l11Texts (listn : Nat) (listl : List ByteArray) : ByteArray := bs (textsL (listl.map toL))
theorem tot_s_l11Texts (listn : Nat) (listl : List ByteArray) (hp : (txB listn listl) = true) : Fo_s_l11Texts 1000000 listn listl = some (s_l11Texts listn listl) := by
 have h1 := hp
 unfold txB lenT at h1
 simp only [Bool.and_eq_true] at h1
 have hl : listl.length = listn := Nat.eq_of_beq_eq_true h1.1
 have hn : listn ≤ 100000 := Nat.le_of_ble_eq_true h1.2.2
 unfold Fo_s_l11Texts G_s_l11Texts s_l11Texts
 cases listl with
 | nil => rw [if_pos (by rw [← hl]; rfl)]; rfl
 | cons x r =>
  rw [if_neg (by rw [← hl]; simp; omega), lo_s_l11Texts hp (by omega)]
  have e := congrArg (List.map toL) (range_getD ByteArray.empty (x :: r))
  rw [hl, List.map_map] at e
  show some (bs (jn [32] _)) = some (bs (jn [32] _))
  rw [← e]
  rfl
def run_s_l11Texts : RunP
 | [.s listn (.strs listl)] => some (txB listn listl, enc_s (s_l11Texts listn listl))
 | _ => none
theorem sound_s_l11Texts : Sound prog 179 run_s_l11Texts := by
 refine sound_1 de_s SO_s_l11Texts (by kernel_rfl) func179 ntmps179 rfl (by kernel_rfl) fun q r E => ?_
 unfold run_s_l11Texts at E
 split at E
 ·obtain ⟨hp, rfl⟩ := so2 E
  rename_i listn listl
  exact ⟨_, _, rfl, (eq_s_l11Texts _ listn listl).trans (tot_s_l11Texts listn listl hp)⟩
 ·cases E

def S_s_l11Points : Sums := ⟨tblS [(48, run_s_l11Point), (179, run_s_l11Texts)], tblM [], false⟩
theorem SO_s_l11Points : SumsOK prog S_s_l11Points := ⟨tblS_ok ⟨⟨call48, sound_s_l11Point⟩, ⟨call179, sound_s_l11Texts⟩, ⟨⟩⟩, tM⟩
def T_s_l11Points_0 (pointsn : Nat) (pointsl : List Int) (l5 : List ByteArray) (m5 : Nat) (i : Int) : Tab := ⟨[.row 0, .junk, .val (.string (bs [])), .row 20, .val (.int .i64 i), .junk, .junk, .junk, .junk, .junk, .junk, .junk, .junk, .junk, .junk, .junk, .junk, .junk, .junk, .junk, .junk, .junk], [(0, .ros pointsn (.ints pointsl)), (20, .row 9 1 m5 (.strs l5))]⟩
def X_s_l11Points_0 (P : Program) (fu pointsn : Nat) (pointsl : List Int) (f : Nat) (l5 : List ByteArray) (m5 : Nat) (i : Int) : Option (ByteArray) := loopK (exec P S_s_l11Points 22 (fun _ => fu + 100) (Code.sub [1, 1, 0, 1, 0, 0] (bodyF P 145))) f (T_s_l11Points_0 pointsn pointsl l5 m5 i) (kBlock 0 (kSeq (fun zs9 => exec P S_s_l11Points 22 (fun _ => fu + 100) (Code.sub [1, 1, 1] (bodyF P 145)) zs9 (finT P 145 dec_s)) (finT P 145 dec_s)))
def B_s_l11Points_0 (pointsn : Nat) (pointsl : List Int) (rec0 : (List ByteArray) → Nat → Int → Option (ByteArray)) (l5 : List ByteArray) (m5 : Nat) (i : Int) : Option (ByteArray) :=
 (if (decide (i < ((pointsn : Nat) : Int))) = true then (if (decide (0 ≤ i) && decide (i < ((pointsn : Nat) : Int))) = true then (if (Nat.ble (i.toNat * 2 + 2) pointsl.length) = true then (if (num2 (pointsl.getD (i.toNat * 2 + 0) 0, pointsl.getD (i.toNat * 2 + 1) 0)) = true then (if (Nat.ble 0 1 && Nat.ble (m5 + 1) 2000000 && Nat.beq 1 (1)) = true then rec0 (l5 ++ [(s_l11Point (pointsl.getD (i.toNat * 2 + 0) 0, pointsl.getD (i.toNat * 2 + 1) 0))]) (m5 + 1) (wI (i + 1)) else none) else none) else none) else none) else (if (txB m5 l5) = true then some (s_l11Texts m5 l5) else none))
def L_s_l11Points_0 (fu pointsn : Nat) (pointsl : List Int) : Nat → (List ByteArray) → Nat → Int → Option (ByteArray)
 | 0, _, _, _ => none
 | f + 1, l5, m5, i => B_s_l11Points_0 pointsn pointsl (L_s_l11Points_0 fu pointsn pointsl f) l5 m5 i
theorem loop_s_l11Points_0 (fu pointsn : Nat) (pointsl : List Int) : ∀ (f : Nat) (l5 : List ByteArray) (m5 : Nat) (i : Int), X_s_l11Points_0 prog fu pointsn pointsl f l5 m5 i = L_s_l11Points_0 fu pointsn pointsl f l5 m5 i := by
 intro f
 induction f with
 | zero => intros; rfl
 | succ f ih =>
  intro l5 m5 i
  have h1 : X_s_l11Points_0 prog fu pointsn pointsl (f + 1) l5 m5 i = B_s_l11Points_0 pointsn pointsl (X_s_l11Points_0 prog fu pointsn pointsl f) l5 m5 i := by kernel_rfl
  have h2 : X_s_l11Points_0 prog fu pointsn pointsl f = L_s_l11Points_0 fu pointsn pointsl f := by funext l5 m5 i; exact ih l5 m5 i
  rw [h1, h2]
  rfl
def G_s_l11Points (pointsn : Nat) (pointsl : List Int) (lo0 : (List ByteArray) → Nat → Int → Option (ByteArray)) : Option (ByteArray) :=
 lo0 [] 0 0
def Fo_s_l11Points (fu pointsn : Nat) (pointsl : List Int) : Option (ByteArray) := G_s_l11Points pointsn pointsl (L_s_l11Points_0 fu pointsn pointsl (fu + 100))
theorem eq_s_l11Points (fu pointsn : Nat) (pointsl : List Int) : eF fu S_s_l11Points 145 22 dec_s [.s pointsn (.ints pointsl)] = Fo_s_l11Points fu pointsn pointsl := by
 have h1 : eF fu S_s_l11Points 145 22 dec_s [.s pointsn (.ints pointsl)] = G_s_l11Points pointsn pointsl (X_s_l11Points_0 prog fu pointsn pointsl (fu + 100)) := by kernel_rfl
 have c0 : X_s_l11Points_0 prog fu pointsn pointsl (fu + 100) = L_s_l11Points_0 fu pointsn pointsl (fu + 100) := by funext l5 m5 i; exact loop_s_l11Points_0 fu pointsn pointsl (fu + 100) l5 m5 i
 rw [h1, c0]
 rfl
theorem cells_s_l11Points {pointsn : Nat} {pointsl : List Int} (hp : ptsB pointsn pointsl = true) : pointsl.length = 2 * pointsn ∧ pointsn ≤ 100000 ∧ ∀ k, k < pointsn → num2 (pointsl.getD (k * 2 + 0) 0, pointsl.getD (k * 2 + 1) 0) = true := by
 unfold ptsB at hp
 simp only [Bool.and_eq_true] at hp
 obtain ⟨h1, h2, h3⟩ := hp
 have hl := (lenB_ok h1).1
 have hn := Nat.le_of_ble_eq_true h3
 exact ⟨hl, by omega, fun k hk => num2_of (all_getD h2 (by omega)) (all_getD h2 (by omega))⟩
def s_l11Points (pointsn : Nat) (pointsl : List Int) : ByteArray := bs (textsL ((List.range pointsn).map fun q => toL (s_l11Point (pointsl.getD (q * 2 + 0) 0, pointsl.getD (q * 2 + 1) 0))))
theorem lo_s_l11Points {pointsn : Nat} {pointsl : List Int} (hp : ptsB pointsn pointsl = true) {F : Nat} (hF : pointsn < F) : L_s_l11Points_0 1000000 pointsn pointsl F [] 0 0 = some (s_l11Points pointsn pointsl) := by
 obtain ⟨hl, hn, hd⟩ := cells_s_l11Points hp
 refine gath_loop (item := fun q => s_l11Point (pointsl.getD (q * 2 + 0) 0, pointsl.getD (q * 2 + 1) 0)) (n := pointsn) hF (fun f r k hk hr => ?_) (fun f => ?_)
 ·show B_s_l11Points_0 pointsn pointsl (L_s_l11Points_0 1000000 pointsn pointsl f) r k (k : Int) = _
  unfold B_s_l11Points_0
  rw [if_pos (by simpa using hk), if_pos (idx_in hk), if_pos (by rw [Int.toNat_natCast]; exact Nat.ble_eq_true_of_le (by omega)), Int.toNat_natCast, if_pos (hd k hk), if_pos (app_ok (by omega)), wrap_next hk (by omega)]
 ·show B_s_l11Points_0 pointsn pointsl (L_s_l11Points_0 1000000 pointsn pointsl f) _ _ ((pointsn : Nat) : Int) = _
  unfold B_s_l11Points_0
  rw [if_neg (by simp), if_pos (tx_of (item := fun q => s_l11Point (pointsl.getD (q * 2 + 0) 0, pointsl.getD (q * 2 + 1) 0)) (by omega) fun q hq => Nat.le_trans (point_size (hd q hq)) (by decide))]
  show some (bs (textsL _)) = some (bs (textsL _))
  rw [List.map_map]
  rfl
theorem tot_s_l11Points (pointsn : Nat) (pointsl : List Int) (hp : (ptsB pointsn pointsl) = true) : Fo_s_l11Points 1000000 pointsn pointsl = some (s_l11Points pointsn pointsl) := by
 obtain ⟨_, hn, _⟩ := cells_s_l11Points hp
 unfold Fo_s_l11Points G_s_l11Points
 exact lo_s_l11Points hp (by omega)
def run_s_l11Points : RunP
 | [.s pointsn (.ints pointsl)] => some (ptsB pointsn pointsl, enc_s (s_l11Points pointsn pointsl))
 | _ => none
theorem sound_s_l11Points : Sound prog 145 run_s_l11Points := by
 refine sound_1 de_s SO_s_l11Points (by kernel_rfl) func145 ntmps145 rfl (by kernel_rfl) fun q r E => ?_
 unfold run_s_l11Points at E
 split at E
 ·obtain ⟨hp, rfl⟩ := so2 E
  rename_i pointsn pointsl
  exact ⟨_, _, rfl, (eq_s_l11Points _ pointsn pointsl).trans (tot_s_l11Points pointsn pointsl hp)⟩
 ·cases E

def S_s_l11Line : Sums := ⟨tblS [(101, run_s_l01Joined)], tblM [], false⟩
theorem SO_s_l11Line : SumsOK prog S_s_l11Line := ⟨tblS_ok ⟨⟨call101, sound_s_l01Joined⟩, ⟨⟩⟩, tM⟩
def Fo_s_l11Line (l : P3) : Option (ByteArray) :=
 (if (nlB 3 [l.1, l.2.1, l.2.2]) = true then some (s_l01Joined 3 [l.1, l.2.1, l.2.2]) else none)
theorem eq_s_l11Line (l : P3) : eT S_s_l11Line 241 11 dec_s [pB l] = Fo_s_l11Line l := by
 kernel_rfl
def s_l11Line (l : P3) : ByteArray := bs (jn [44] [decL l.1.toNat, decL l.2.1.toNat, decL l.2.2.toNat])
theorem tot_s_l11Line (l : P3) (hp : (num3 l) = true) : Fo_s_l11Line l = some (s_l11Line l) := by
 unfold Fo_s_l11Line
 rw [if_pos (num3_nl hp)]
 rfl
def run_s_l11Line : RunP
 | [.v (.agg ⟨[.int .i64 l0, .int .i64 l1, .int .i64 l2]⟩)] => some (num3 (l0, l1, l2), enc_s (s_l11Line (l0, l1, l2)))
 | _ => none
theorem sound_s_l11Line : Sound prog 241 run_s_l11Line := by
 refine sound_1 de_s SO_s_l11Line (by kernel_rfl) func241 ntmps241 rfl (by kernel_rfl) fun q r E => ?_
 unfold run_s_l11Line at E
 split at E
 ·obtain ⟨hp, rfl⟩ := so2 E
  rename_i l0 l1 l2
  exact ⟨_, _, rfl, (eq_s_l11Line (l0, l1, l2)).trans (tot_s_l11Line (l0, l1, l2) hp)⟩
 ·cases E

def S_s_l11Lines : Sums := ⟨tblS [(241, run_s_l11Line), (179, run_s_l11Texts)], tblM [], false⟩
theorem SO_s_l11Lines : SumsOK prog S_s_l11Lines := ⟨tblS_ok ⟨⟨call241, sound_s_l11Line⟩, ⟨call179, sound_s_l11Texts⟩, ⟨⟩⟩, tM⟩
def T_s_l11Lines_0 (linesn : Nat) (linesl : List Int) (l5 : List ByteArray) (m5 : Nat) (i : Int) : Tab := ⟨[.row 0, .junk, .val (.string (bs [])), .row 20, .val (.int .i64 i), .junk, .junk, .junk, .junk, .junk, .junk, .junk, .junk, .junk, .junk, .junk, .junk, .junk, .junk, .junk, .junk, .junk], [(0, .ros linesn (.ints linesl)), (20, .row 9 1 m5 (.strs l5))]⟩
def X_s_l11Lines_0 (P : Program) (fu linesn : Nat) (linesl : List Int) (f : Nat) (l5 : List ByteArray) (m5 : Nat) (i : Int) : Option (ByteArray) := loopK (exec P S_s_l11Lines 22 (fun _ => fu + 100) (Code.sub [1, 1, 0, 1, 0, 0] (bodyF P 202))) f (T_s_l11Lines_0 linesn linesl l5 m5 i) (kBlock 0 (kSeq (fun zs9 => exec P S_s_l11Lines 22 (fun _ => fu + 100) (Code.sub [1, 1, 1] (bodyF P 202)) zs9 (finT P 202 dec_s)) (finT P 202 dec_s)))
def B_s_l11Lines_0 (linesn : Nat) (linesl : List Int) (rec0 : (List ByteArray) → Nat → Int → Option (ByteArray)) (l5 : List ByteArray) (m5 : Nat) (i : Int) : Option (ByteArray) :=
 (if (decide (i < ((linesn : Nat) : Int))) = true then (if (decide (0 ≤ i) && decide (i < ((linesn : Nat) : Int))) = true then (if (Nat.ble (i.toNat * 3 + 3) linesl.length) = true then (if (num3 (linesl.getD (i.toNat * 3 + 0) 0, linesl.getD (i.toNat * 3 + 1) 0, linesl.getD (i.toNat * 3 + 2) 0)) = true then (if (Nat.ble 0 1 && Nat.ble (m5 + 1) 2000000 && Nat.beq 1 (1)) = true then rec0 (l5 ++ [(s_l11Line (linesl.getD (i.toNat * 3 + 0) 0, linesl.getD (i.toNat * 3 + 1) 0, linesl.getD (i.toNat * 3 + 2) 0))]) (m5 + 1) (wI (i + 1)) else none) else none) else none) else none) else (if (txB m5 l5) = true then some (s_l11Texts m5 l5) else none))
def L_s_l11Lines_0 (fu linesn : Nat) (linesl : List Int) : Nat → (List ByteArray) → Nat → Int → Option (ByteArray)
 | 0, _, _, _ => none
 | f + 1, l5, m5, i => B_s_l11Lines_0 linesn linesl (L_s_l11Lines_0 fu linesn linesl f) l5 m5 i
theorem loop_s_l11Lines_0 (fu linesn : Nat) (linesl : List Int) : ∀ (f : Nat) (l5 : List ByteArray) (m5 : Nat) (i : Int), X_s_l11Lines_0 prog fu linesn linesl f l5 m5 i = L_s_l11Lines_0 fu linesn linesl f l5 m5 i := by
 intro f
 induction f with
 | zero => intros; rfl
 | succ f ih =>
  intro l5 m5 i
  have h1 : X_s_l11Lines_0 prog fu linesn linesl (f + 1) l5 m5 i = B_s_l11Lines_0 linesn linesl (X_s_l11Lines_0 prog fu linesn linesl f) l5 m5 i := by kernel_rfl
  have h2 : X_s_l11Lines_0 prog fu linesn linesl f = L_s_l11Lines_0 fu linesn linesl f := by funext l5 m5 i; exact ih l5 m5 i
  rw [h1, h2]
  rfl
def G_s_l11Lines (linesn : Nat) (linesl : List Int) (lo0 : (List ByteArray) → Nat → Int → Option (ByteArray)) : Option (ByteArray) :=
 lo0 [] 0 0
def Fo_s_l11Lines (fu linesn : Nat) (linesl : List Int) : Option (ByteArray) := G_s_l11Lines linesn linesl (L_s_l11Lines_0 fu linesn linesl (fu + 100))
theorem eq_s_l11Lines (fu linesn : Nat) (linesl : List Int) : eF fu S_s_l11Lines 202 22 dec_s [.s linesn (.ints linesl)] = Fo_s_l11Lines fu linesn linesl := by
 have h1 : eF fu S_s_l11Lines 202 22 dec_s [.s linesn (.ints linesl)] = G_s_l11Lines linesn linesl (X_s_l11Lines_0 prog fu linesn linesl (fu + 100)) := by kernel_rfl
 have c0 : X_s_l11Lines_0 prog fu linesn linesl (fu + 100) = L_s_l11Lines_0 fu linesn linesl (fu + 100) := by funext l5 m5 i; exact loop_s_l11Lines_0 fu linesn linesl (fu + 100) l5 m5 i
 rw [h1, c0]
 rfl
theorem cells_s_l11Lines {linesn : Nat} {linesl : List Int} (hp : lnsB linesn linesl = true) : linesl.length = 3 * linesn ∧ linesn ≤ 100000 ∧ ∀ k, k < linesn → num3 (linesl.getD (k * 3 + 0) 0, linesl.getD (k * 3 + 1) 0, linesl.getD (k * 3 + 2) 0) = true := by
 unfold lnsB at hp
 simp only [Bool.and_eq_true] at hp
 obtain ⟨h1, h2, h3⟩ := hp
 have hl := (lenB_ok h1).1
 have hn := Nat.le_of_ble_eq_true h3
 exact ⟨hl, by omega, fun k hk => num3_of (all_getD h2 (by omega)) (all_getD h2 (by omega)) (all_getD h2 (by omega))⟩
def s_l11Lines (linesn : Nat) (linesl : List Int) : ByteArray := bs (textsL ((List.range linesn).map fun q => toL (s_l11Line (linesl.getD (q * 3 + 0) 0, linesl.getD (q * 3 + 1) 0, linesl.getD (q * 3 + 2) 0))))
theorem lo_s_l11Lines {linesn : Nat} {linesl : List Int} (hp : lnsB linesn linesl = true) {F : Nat} (hF : linesn < F) : L_s_l11Lines_0 1000000 linesn linesl F [] 0 0 = some (s_l11Lines linesn linesl) := by
 obtain ⟨hl, hn, hd⟩ := cells_s_l11Lines hp
 refine gath_loop (item := fun q => s_l11Line (linesl.getD (q * 3 + 0) 0, linesl.getD (q * 3 + 1) 0, linesl.getD (q * 3 + 2) 0)) (n := linesn) hF (fun f r k hk hr => ?_) (fun f => ?_)
 ·show B_s_l11Lines_0 linesn linesl (L_s_l11Lines_0 1000000 linesn linesl f) r k (k : Int) = _
  unfold B_s_l11Lines_0
  rw [if_pos (by simpa using hk), if_pos (idx_in hk), if_pos (by rw [Int.toNat_natCast]; exact Nat.ble_eq_true_of_le (by omega)), Int.toNat_natCast, if_pos (hd k hk), if_pos (app_ok (by omega)), wrap_next hk (by omega)]
 ·show B_s_l11Lines_0 linesn linesl (L_s_l11Lines_0 1000000 linesn linesl f) _ _ ((linesn : Nat) : Int) = _
  unfold B_s_l11Lines_0
  rw [if_neg (by simp), if_pos (tx_of (item := fun q => s_l11Line (linesl.getD (q * 3 + 0) 0, linesl.getD (q * 3 + 1) 0, linesl.getD (q * 3 + 2) 0)) (by omega) fun q hq => Nat.le_trans (line_size (hd q hq)) (by decide))]
  show some (bs (textsL _)) = some (bs (textsL _))
  rw [List.map_map]
  rfl
theorem tot_s_l11Lines (linesn : Nat) (linesl : List Int) (hp : (lnsB linesn linesl) = true) : Fo_s_l11Lines 1000000 linesn linesl = some (s_l11Lines linesn linesl) := by
 obtain ⟨_, hn, _⟩ := cells_s_l11Lines hp
 unfold Fo_s_l11Lines G_s_l11Lines
 exact lo_s_l11Lines hp (by omega)
def run_s_l11Lines : RunP
 | [.s linesn (.ints linesl)] => some (lnsB linesn linesl, enc_s (s_l11Lines linesn linesl))
 | _ => none
theorem sound_s_l11Lines : Sound prog 202 run_s_l11Lines := by
 refine sound_1 de_s SO_s_l11Lines (by kernel_rfl) func202 ntmps202 rfl (by kernel_rfl) fun q r E => ?_
 unfold run_s_l11Lines at E
 split at E
 ·obtain ⟨hp, rfl⟩ := so2 E
  rename_i linesn linesl
  exact ⟨_, _, rfl, (eq_s_l11Lines _ linesn linesl).trans (tot_s_l11Lines linesn linesl hp)⟩
 ·cases E

def S_s_l11List : Sums := ⟨tblS [(46, run_s_l01Dec), (179, run_s_l11Texts)], tblM [], false⟩
theorem SO_s_l11List : SumsOK prog S_s_l11List := ⟨tblS_ok ⟨⟨call46, sound_s_l01Dec⟩, ⟨call179, sound_s_l11Texts⟩, ⟨⟩⟩, tM⟩
def T_s_l11List_0 (numbersn : Nat) (numbersl : List Int) (l5 : List ByteArray) (m5 : Nat) (i : Int) : Tab := ⟨[.row 0, .junk, .val (.string (bs [])), .row 20, .val (.int .i64 i), .junk, .junk, .junk, .junk, .junk, .junk, .junk, .junk, .junk, .junk, .junk, .junk, .junk, .junk, .junk, .junk, .junk], [(0, .ros numbersn (.ints numbersl)), (20, .row 9 1 m5 (.strs l5))]⟩
def X_s_l11List_0 (P : Program) (fu numbersn : Nat) (numbersl : List Int) (f : Nat) (l5 : List ByteArray) (m5 : Nat) (i : Int) : Option (ByteArray) := loopK (exec P S_s_l11List 22 (fun _ => fu + 100) (Code.sub [1, 1, 0, 1, 0, 0] (bodyF P 188))) f (T_s_l11List_0 numbersn numbersl l5 m5 i) (kBlock 0 (kSeq (fun zs9 => exec P S_s_l11List 22 (fun _ => fu + 100) (Code.sub [1, 1, 1] (bodyF P 188)) zs9 (finT P 188 dec_s)) (finT P 188 dec_s)))
def B_s_l11List_0 (numbersn : Nat) (numbersl : List Int) (rec0 : (List ByteArray) → Nat → Int → Option (ByteArray)) (l5 : List ByteArray) (m5 : Nat) (i : Int) : Option (ByteArray) :=
 (if (decide (i < ((numbersn : Nat) : Int))) = true then (if (decide (0 ≤ i) && decide (i < ((numbersn : Nat) : Int))) = true then (if (Nat.ble (i.toNat * 1 + 1) numbersl.length) = true then (if (decOK (numbersl.getD (i.toNat * 1) 0)) = true then (if (Nat.ble 0 1 && Nat.ble (m5 + 1) 2000000 && Nat.beq 1 (1)) = true then rec0 (l5 ++ [(s_l01Dec (numbersl.getD (i.toNat * 1) 0))]) (m5 + 1) (wI (i + 1)) else none) else none) else none) else none) else (if (txB m5 l5) = true then some (s_l11Texts m5 l5) else none))
def L_s_l11List_0 (fu numbersn : Nat) (numbersl : List Int) : Nat → (List ByteArray) → Nat → Int → Option (ByteArray)
 | 0, _, _, _ => none
 | f + 1, l5, m5, i => B_s_l11List_0 numbersn numbersl (L_s_l11List_0 fu numbersn numbersl f) l5 m5 i
theorem loop_s_l11List_0 (fu numbersn : Nat) (numbersl : List Int) : ∀ (f : Nat) (l5 : List ByteArray) (m5 : Nat) (i : Int), X_s_l11List_0 prog fu numbersn numbersl f l5 m5 i = L_s_l11List_0 fu numbersn numbersl f l5 m5 i := by
 intro f
 induction f with
 | zero => intros; rfl
 | succ f ih =>
  intro l5 m5 i
  have h1 : X_s_l11List_0 prog fu numbersn numbersl (f + 1) l5 m5 i = B_s_l11List_0 numbersn numbersl (X_s_l11List_0 prog fu numbersn numbersl f) l5 m5 i := by kernel_rfl
  have h2 : X_s_l11List_0 prog fu numbersn numbersl f = L_s_l11List_0 fu numbersn numbersl f := by funext l5 m5 i; exact ih l5 m5 i
  rw [h1, h2]
  rfl
def G_s_l11List (numbersn : Nat) (numbersl : List Int) (lo0 : (List ByteArray) → Nat → Int → Option (ByteArray)) : Option (ByteArray) :=
 lo0 [] 0 0
def Fo_s_l11List (fu numbersn : Nat) (numbersl : List Int) : Option (ByteArray) := G_s_l11List numbersn numbersl (L_s_l11List_0 fu numbersn numbersl (fu + 100))
theorem eq_s_l11List (fu numbersn : Nat) (numbersl : List Int) : eF fu S_s_l11List 188 22 dec_s [.s numbersn (.ints numbersl)] = Fo_s_l11List fu numbersn numbersl := by
 have h1 : eF fu S_s_l11List 188 22 dec_s [.s numbersn (.ints numbersl)] = G_s_l11List numbersn numbersl (X_s_l11List_0 prog fu numbersn numbersl (fu + 100)) := by kernel_rfl
 have c0 : X_s_l11List_0 prog fu numbersn numbersl (fu + 100) = L_s_l11List_0 fu numbersn numbersl (fu + 100) := by funext l5 m5 i; exact loop_s_l11List_0 fu numbersn numbersl (fu + 100) l5 m5 i
 rw [h1, c0]
 rfl
theorem cells_s_l11List {numbersn : Nat} {numbersl : List Int} (hp : numB numbersn numbersl = true) : numbersl.length = 1 * numbersn ∧ numbersn ≤ 100000 ∧ ∀ k, k < numbersn → decOK (numbersl.getD (k * 1) 0) = true := by
 unfold numB at hp
 simp only [Bool.and_eq_true] at hp
 obtain ⟨h1, h2, h3⟩ := hp
 have hl := (lenB_ok h1).1
 have hn := Nat.le_of_ble_eq_true h3
 exact ⟨hl, by omega, fun k hk => num1_dec (all_getD h2 (by omega))⟩
def s_l11List (numbersn : Nat) (numbersl : List Int) : ByteArray := bs (textsL ((List.range numbersn).map fun q => toL (s_l01Dec (numbersl.getD (q * 1) 0))))
theorem lo_s_l11List {numbersn : Nat} {numbersl : List Int} (hp : numB numbersn numbersl = true) {F : Nat} (hF : numbersn < F) : L_s_l11List_0 1000000 numbersn numbersl F [] 0 0 = some (s_l11List numbersn numbersl) := by
 obtain ⟨hl, hn, hd⟩ := cells_s_l11List hp
 refine gath_loop (item := fun q => s_l01Dec (numbersl.getD (q * 1) 0)) (n := numbersn) hF (fun f r k hk hr => ?_) (fun f => ?_)
 ·show B_s_l11List_0 numbersn numbersl (L_s_l11List_0 1000000 numbersn numbersl f) r k (k : Int) = _
  unfold B_s_l11List_0
  rw [if_pos (by simpa using hk), if_pos (idx_in hk), if_pos (by rw [Int.toNat_natCast]; exact Nat.ble_eq_true_of_le (by omega)), Int.toNat_natCast, if_pos (hd k hk), if_pos (app_ok (by omega)), wrap_next hk (by omega)]
 ·show B_s_l11List_0 numbersn numbersl (L_s_l11List_0 1000000 numbersn numbersl f) _ _ ((numbersn : Nat) : Int) = _
  unfold B_s_l11List_0
  rw [if_neg (by simp), if_pos (tx_of (item := fun q => s_l01Dec (numbersl.getD (q * 1) 0)) (by omega) fun q hq => Nat.le_trans (sizeD (hd q hq)) (by decide))]
  show some (bs (textsL _)) = some (bs (textsL _))
  rw [List.map_map]
  rfl
theorem tot_s_l11List (numbersn : Nat) (numbersl : List Int) (hp : (numB numbersn numbersl) = true) : Fo_s_l11List 1000000 numbersn numbersl = some (s_l11List numbersn numbersl) := by
 obtain ⟨_, hn, _⟩ := cells_s_l11List hp
 unfold Fo_s_l11List G_s_l11List
 exact lo_s_l11List hp (by omega)
def run_s_l11List : RunP
 | [.s numbersn (.ints numbersl)] => some (numB numbersn numbersl, enc_s (s_l11List numbersn numbersl))
 | _ => none
theorem sound_s_l11List : Sound prog 188 run_s_l11List := by
 refine sound_1 de_s SO_s_l11List (by kernel_rfl) func188 ntmps188 rfl (by kernel_rfl) fun q r E => ?_
 unfold run_s_l11List at E
 split at E
 ·obtain ⟨hp, rfl⟩ := so2 E
  rename_i numbersn numbersl
  exact ⟨_, _, rfl, (eq_s_l11List _ numbersn numbersl).trans (tot_s_l11List numbersn numbersl hp)⟩
 ·cases E

end

end Go.Proofs.YtcdpfpfbilfpoaaGreatDoor
