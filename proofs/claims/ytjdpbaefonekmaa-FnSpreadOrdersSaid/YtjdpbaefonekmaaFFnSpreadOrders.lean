import Derived.Test.YtjdpbaefonekmaaFd
import Derived.Test.YtjdpbaefonekmaaQy
import Derived.Test.YtjdpbaefonekmaaProg
set_option linter.unusedSimpArgs false
set_option linter.unusedVariables false
namespace Go.Proofs.Ytjdpbaefonekmaa
open Go.RowKit
noncomputable section
def S_i_OrdersOf : Sums := ⟨tblS [(44, run_i_IsField), (30, run_i_orderOf)], tblM []⟩
theorem SO_i_OrdersOf : SumsOK Try.prog S_i_OrdersOf := ⟨tblS_ok ⟨⟨Try.call44, sound_i_IsField⟩, ⟨Try.call30, sound_i_orderOf⟩, True.intro⟩, tblM_ok True.intro⟩
def T_i_OrdersOf_0 (p : Int) (l21 : List Int) (j_s : Int) : Tab := ⟨[.val (.int .i64 p), .junk, .val (.slice none 0 0), .val (.slice none 0 0), .val (.int .i64 0), .row 84, .val (.int .i64 j_s), .junk, .junk, .junk, .junk, .junk, .junk, .val (.int .i64 p), .val (.bool (i_IsField p)), .val (.bool (!(i_IsField p))), .val (.int .i64 p), .val (.int .i64 (wI (2 * p))), .val (.int .i64 p), .val (.int .i64 (wI ((wI (2 * p)) * p))), .val (.int .i64 (wI ((wI ((wI (2 * p)) * p)) + 3))), .row 84, .junk, .junk, .junk, .junk, .junk, .junk, .junk, .junk, .junk, .junk, .junk, .junk, .junk, .junk, .junk, .junk, .junk, .junk, .junk, .junk, .junk, .junk, .junk, .junk, .junk, .junk, .junk, .junk, .junk, .junk, .junk, .junk, .junk, .junk, .junk, .junk, .junk, .junk, .junk], [(84, .row 2 1 ((wI ((wI ((wI (2 * p)) * p)) + 3)).toNat) (.ints l21))]⟩
def T_i_OrdersOf_1 (p : Int) (l21 : List Int) (j_s : Int) (l39 : List Int) (l40 : List Int) (m39 : Nat) (m40 : Nat) (t43 : Int) : Tab := ⟨[.val (.int .i64 p), .junk, .val (.slice none 0 0), .val (.slice none 0 0), .val (.int .i64 0), .row 84, .val (.int .i64 j_s), .junk, .junk, .row 156, .row 160, .junk, .junk, .val (.int .i64 p), .val (.bool (i_IsField p)), .val (.bool (!(i_IsField p))), .val (.int .i64 p), .val (.int .i64 (wI (2 * p))), .val (.int .i64 p), .val (.int .i64 (wI ((wI (2 * p)) * p))), .val (.int .i64 (wI ((wI ((wI (2 * p)) * p)) + 3))), .row 84, .val (.int .i64 j_s), .val (.int .i64 p), .val (.bool (decide (j_s < p))), .junk, .junk, .junk, .junk, .junk, .junk, .junk, .junk, .junk, .junk, .junk, .junk, .junk, .junk, .junk, .junk, .row 84, .val (.int .i64 (((wI ((wI ((wI (2 * p)) * p)) + 3)).toNat : Nat) : Int)), .val (.int .i64 t43), .junk, .junk, .junk, .junk, .junk, .junk, .junk, .junk, .junk, .junk, .junk, .junk, .junk, .junk, .junk, .junk, .junk], [(84, .row 2 1 ((wI ((wI ((wI (2 * p)) * p)) + 3)).toNat) (.ints l21)), (156, .row 2 1 m39 (.ints l39)), (160, .row 2 1 m40 (.ints l40))]⟩
def X_i_OrdersOf_1 (P : Program) (fu : Nat) (p : Int) (l21 : List Int) (j_s : Int) (rc0 : Tab → Option ((Nat × List Int) × (Nat × List Int) × Int)) (f : Nat) (l39 : List Int) (l40 : List Int) (m39 : Nat) (m40 : Nat) (t43 : Int) : Option ((Nat × List Int) × (Nat × List Int) × Int) := loopK (exec P S_i_OrdersOf 61 (fun _ => fu + 100) (Code.sub [1, 1, 1, 1, 1, 0, 1, 0, 0] (bodyF P 14))) f (T_i_OrdersOf_1 p l21 j_s l39 l40 m39 m40 t43) (kBlock 2 (kSeq (fun zs9 => exec P S_i_OrdersOf 61 (fun _ => fu + 100) (Code.sub [1, 1, 1, 1, 1, 1] (bodyF P 14)) zs9 (finT P 14 dec_l2_1_l2_1_i)) (finT P 14 dec_l2_1_l2_1_i)))
def B_i_OrdersOf_1 (p : Int) (l21 : List Int) (j_s : Int) (rec0 : (List Int) → Int → Option ((Nat × List Int) × (Nat × List Int) × Int)) (rec1 : (List Int) → (List Int) → Nat → Nat → Int → Option ((Nat × List Int) × (Nat × List Int) × Int)) (l39 : List Int) (l40 : List Int) (m39 : Nat) (m40 : Nat) (t43 : Int) : Option ((Nat × List Int) × (Nat × List Int) × Int) :=
  (if (decide (t43 < (((wI ((wI ((wI (2 * p)) * p)) + 3)).toNat : Nat) : Int))) = true then (if (decide (0 ≤ t43) && decide (t43 < (((wI ((wI ((wI (2 * p)) * p)) + 3)).toNat : Nat) : Int))) = true then (if (Nat.ble (t43.toNat * 1 + 1) l21.length) = true then (if (decide ((l21.getD (t43.toNat * 1) 0) > 0)) = true then (if (Nat.ble 1 1 && Nat.ble (m39 + 1) 1000000 && Nat.beq 1 (1)) = true then (if (Nat.ble 1 1 && Nat.ble (m40 + 1) 1000000 && Nat.beq 1 (1)) = true then rec1 (l39 ++ [t43]) (l40 ++ [l21.getD (t43.toNat * 1) 0]) (m39 + 1) (m40 + 1) (wI (t43 + 1)) else none) else none) else rec1 l39 l40 m39 m40 (wI (t43 + 1))) else none) else none) else some ((m39, l39), (m40, l40), 0))
def L_i_OrdersOf_1 (fu : Nat) (p : Int) (l21 : List Int) (j_s : Int) (rec0 : (List Int) → Int → Option ((Nat × List Int) × (Nat × List Int) × Int)) : Nat → (List Int) → (List Int) → Nat → Nat → Int → Option ((Nat × List Int) × (Nat × List Int) × Int)
  | 0, _, _, _, _, _ => none
  | f + 1, l39, l40, m39, m40, t43 => B_i_OrdersOf_1 p l21 j_s rec0 (L_i_OrdersOf_1 fu p l21 j_s rec0 f) l39 l40 m39 m40 t43
theorem loop_i_OrdersOf_1 (fu : Nat) (p : Int) (l21 : List Int) (j_s : Int) (rc0 : Tab → Option ((Nat × List Int) × (Nat × List Int) × Int)) : ∀ (f : Nat) (l39 : List Int) (l40 : List Int) (m39 : Nat) (m40 : Nat) (t43 : Int), X_i_OrdersOf_1 Try.prog fu p l21 j_s rc0 f l39 l40 m39 m40 t43 = L_i_OrdersOf_1 fu p l21 j_s (fun l21 j_s => rc0 (T_i_OrdersOf_0 p l21 j_s)) f l39 l40 m39 m40 t43 := by
  intro f
  induction f with
  | zero => intros; rfl
  | succ f ih =>
    intro l39 l40 m39 m40 t43
    have h1 : X_i_OrdersOf_1 Try.prog fu p l21 j_s rc0 (f + 1) l39 l40 m39 m40 t43 = B_i_OrdersOf_1 p l21 j_s (fun l21 j_s => rc0 (T_i_OrdersOf_0 p l21 j_s)) (X_i_OrdersOf_1 Try.prog fu p l21 j_s rc0 f) l39 l40 m39 m40 t43 := by kernel_rfl
    have h2 : X_i_OrdersOf_1 Try.prog fu p l21 j_s rc0 f = L_i_OrdersOf_1 fu p l21 j_s (fun l21 j_s => rc0 (T_i_OrdersOf_0 p l21 j_s)) f := by funext l39 l40 m39 m40 t43; exact ih l39 l40 m39 m40 t43
    rw [h1, h2]
    rfl
def X_i_OrdersOf_0 (P : Program) (fu : Nat) (p : Int) (f : Nat) (l21 : List Int) (j_s : Int) : Option ((Nat × List Int) × (Nat × List Int) × Int) := loopK (exec P S_i_OrdersOf 61 (fun _ => fu + 100) (Code.sub [1, 1, 1, 0, 1, 0, 0] (bodyF P 14))) f (T_i_OrdersOf_0 p l21 j_s) (kBlock 0 (kSeq (fun zs9 => exec P S_i_OrdersOf 61 (fun _ => fu + 100) (Code.sub [1, 1, 1, 1] (bodyF P 14)) zs9 (finT P 14 dec_l2_1_l2_1_i)) (finT P 14 dec_l2_1_l2_1_i)))
def B_i_OrdersOf_0 (p : Int) (lo1 : (List Int) → (List Int) → Nat → Nat → Int → Option ((Nat × List Int) × (Nat × List Int) × Int)) (rec0 : (List Int) → Int → Option ((Nat × List Int) × (Nat × List Int) × Int)) (l21 : List Int) (j_s : Int) : Option ((Nat × List Int) × (Nat × List Int) × Int) :=
  (if (decide (j_s < p)) = true then (if ((Fo_i_orderOf 1000000 p j_s).isSome) = true then (if (decide (0 ≤ (i_orderOf p j_s).1) && decide ((i_orderOf p j_s).1 < (((wI ((wI ((wI (2 * p)) * p)) + 3)).toNat : Nat) : Int))) = true then (if (Nat.ble ((((i_orderOf p j_s).1).toNat) * 1 + 1) l21.length) = true then (if (decide (0 ≤ (i_orderOf p j_s).1) && decide ((i_orderOf p j_s).1 < (((wI ((wI ((wI (2 * p)) * p)) + 3)).toNat : Nat) : Int))) = true then (if (Nat.ble ((((i_orderOf p j_s).1).toNat) * 1 + 1) l21.length) = true then rec0 (l21.set ((((i_orderOf p j_s).1).toNat) * 1 + 0) (wI ((l21.getD ((((i_orderOf p j_s).1).toNat) * 1) 0) + 1))) (wI (j_s + 1)) else none) else none) else none) else none) else none) else lo1 [] [] 0 0 0)
def L_i_OrdersOf_0 (fu : Nat) (p : Int) : Nat → (List Int) → Int → Option ((Nat × List Int) × (Nat × List Int) × Int)
  | 0, _, _ => none
  | f + 1, l21, j_s => B_i_OrdersOf_0 p (L_i_OrdersOf_1 fu p l21 j_s (L_i_OrdersOf_0 fu p f) (fu + 100)) (L_i_OrdersOf_0 fu p f) l21 j_s
theorem loop_i_OrdersOf_0 (fu : Nat) (p : Int) : ∀ (f : Nat) (l21 : List Int) (j_s : Int), X_i_OrdersOf_0 Try.prog fu p f l21 j_s = L_i_OrdersOf_0 fu p f l21 j_s := by
  intro f
  induction f with
  | zero => intros; rfl
  | succ f ih =>
    intro l21 j_s
    have h1 : X_i_OrdersOf_0 Try.prog fu p (f + 1) l21 j_s = B_i_OrdersOf_0 p (X_i_OrdersOf_1 Try.prog fu p l21 j_s (fun t => loopK (exec Try.prog S_i_OrdersOf 61 (fun _ => fu + 100) (Code.sub [1, 1, 1, 0, 1, 0, 0] (bodyF Try.prog 14))) f t (kBlock 0 (kSeq (fun zs9 => exec Try.prog S_i_OrdersOf 61 (fun _ => fu + 100) (Code.sub [1, 1, 1, 1] (bodyF Try.prog 14)) zs9 (finT Try.prog 14 dec_l2_1_l2_1_i)) (finT Try.prog 14 dec_l2_1_l2_1_i)))) (fu + 100)) (X_i_OrdersOf_0 Try.prog fu p f) l21 j_s := by kernel_rfl
    have h2 : X_i_OrdersOf_0 Try.prog fu p f = L_i_OrdersOf_0 fu p f := by funext l21 j_s; exact ih l21 j_s
    have c1 : (X_i_OrdersOf_1 Try.prog fu p l21 j_s (fun t => loopK (exec Try.prog S_i_OrdersOf 61 (fun _ => fu + 100) (Code.sub [1, 1, 1, 0, 1, 0, 0] (bodyF Try.prog 14))) f t (kBlock 0 (kSeq (fun zs9 => exec Try.prog S_i_OrdersOf 61 (fun _ => fu + 100) (Code.sub [1, 1, 1, 1] (bodyF Try.prog 14)) zs9 (finT Try.prog 14 dec_l2_1_l2_1_i)) (finT Try.prog 14 dec_l2_1_l2_1_i)))) (fu + 100)) = L_i_OrdersOf_1 fu p l21 j_s (X_i_OrdersOf_0 Try.prog fu p f) (fu + 100) := by funext l39 l40 m39 m40 t43; exact loop_i_OrdersOf_1 fu p l21 j_s (fun t => loopK (exec Try.prog S_i_OrdersOf 61 (fun _ => fu + 100) (Code.sub [1, 1, 1, 0, 1, 0, 0] (bodyF Try.prog 14))) f t (kBlock 0 (kSeq (fun zs9 => exec Try.prog S_i_OrdersOf 61 (fun _ => fu + 100) (Code.sub [1, 1, 1, 1] (bodyF Try.prog 14)) zs9 (finT Try.prog 14 dec_l2_1_l2_1_i)) (finT Try.prog 14 dec_l2_1_l2_1_i)))) (fu + 100) l39 l40 m39 m40 t43
    rw [h1, c1, h2]
    rfl
def G_i_OrdersOf (p : Int) (lo0 : (List Int) → Int → Option ((Nat × List Int) × (Nat × List Int) × Int)) : Option ((Nat × List Int) × (Nat × List Int) × Int) :=
  (if (!(i_IsField p)) = true then some ((0, []), (0, []), 1) else (if (decide (0 ≤ wI ((wI ((wI (2 * p)) * p)) + 3)) && decide (wI ((wI ((wI (2 * p)) * p)) + 3) ≤ 2000000) && (wI ((wI ((wI (2 * p)) * p)) + 3)) == (wI ((wI ((wI (2 * p)) * p)) + 3))) = true then lo0 (List.replicate ((wI ((wI ((wI (2 * p)) * p)) + 3)).toNat) 0) 0 else none))
def Fo_i_OrdersOf (fu : Nat) (p : Int) : Option ((Nat × List Int) × (Nat × List Int) × Int) := G_i_OrdersOf p (L_i_OrdersOf_0 fu p (fu + 100))
theorem eqg_i_OrdersOf (fu : Nat) (p : Int) : execT Try.prog S_i_OrdersOf 14 61 (fun _ => fu + 100) dec_l2_1_l2_1_i [.v (.int .i64 p)] = G_i_OrdersOf p (L_i_OrdersOf_0 fu p (fu + 100)) := by
  have h1 : execT Try.prog S_i_OrdersOf 14 61 (fun _ => fu + 100) dec_l2_1_l2_1_i [.v (.int .i64 p)] = G_i_OrdersOf p (X_i_OrdersOf_0 Try.prog fu p (fu + 100)) := by kernel_rfl
  have c0 : X_i_OrdersOf_0 Try.prog fu p (fu + 100) = L_i_OrdersOf_0 fu p (fu + 100) := by funext l21 j_s; exact loop_i_OrdersOf_0 fu p (fu + 100) l21 j_s
  rw [h1, c0]
theorem eq_i_OrdersOf (fu : Nat) (p : Int) : execT Try.prog S_i_OrdersOf 14 61 (fun _ => fu + 100) dec_l2_1_l2_1_i [.v (.int .i64 p)] = Fo_i_OrdersOf fu p := eqg_i_OrdersOf fu p
theorem iol_go {p : Int} {len : Nat} (hlen : len ≤ 5000) (hw : (wI ((wI ((wI (2 * p)) * p)) + 3)).toNat = len) (l : List Int) (hl : l.length = len) (hc : ∀ j, l.getD j 0 = cn p j) (js : Int) (rec0 : List Int → Int → Option ((Nat × List Int) × (Nat × List Int) × Int)) :
    ∀ (j t f a : Nat) (A B : List Int), t + j = len → j < f → a ≤ t → L_i_OrdersOf_1 1000000 p l js rec0 f A B a a (t : Int) = some ((a + ((List.range' t j).filter (pos p)).length, A ++ ((List.range' t j).filter (pos p)).map fun t : Nat => (t : Int)), (a + ((List.range' t j).filter (pos p)).length, B ++ ((List.range' t j).filter (pos p)).map (cn p)), 0)
  | j, t, 0, a, A, B, _, h, _ => absurd h (Nat.not_lt_zero j)
  | 0, t, f + 1, a, A, B, ht, _, _ => by
    obtain rfl : t = len := by omega
    show B_i_OrdersOf_1 p l js rec0 (L_i_OrdersOf_1 1000000 p l js rec0 f) A B a a (t : Int) = _
    unfold B_i_OrdersOf_1
    rw [hw, if_neg (by simp)]
    simp
  | j + 1, t, f + 1, a, A, B, ht, hf, ha => by
    show B_i_OrdersOf_1 p l js rec0 (L_i_OrdersOf_1 1000000 p l js rec0 f) A B a a (t : Int) = _
    unfold B_i_OrdersOf_1
    rw [hw, if_pos (cnd (by omega)), if_pos (cnd2 (by omega)), Int.toNat_natCast, if_pos (row1_ok hl (by omega)), Nat.mul_one, hc, wrap_add1 (n := t + 1) (by omega) (by omega), List.range'_succ, List.filter_cons]
    have e : decide (cn p t > 0) = pos p t := rfl
    rw [e]
    cases pos p t
    · simp only [Bool.false_eq_true, if_false]
      exact iol_go hlen hw l hl hc js rec0 j (t + 1) f a A B (by omega) (by omega) (by omega)
    · simp only [if_true]
      rw [if_pos (ap_ok (by omega)), if_pos (ap_ok (by omega)), iol_go hlen hw l hl hc js rec0 j (t + 1) f (a + 1) _ _ (by omega) (by omega) (by omega), app_cons, app_cons, List.length_cons, Nat.add_assoc, Nat.add_comm 1]
      rfl
theorem iob_go {p : Int} (hf : i_IsField p = true) {N : Nat} (h1 : 2 * p.toNat + 2 ≤ N) (h2 : N ≤ 3000) (hw : (wI ((wI ((wI (2 * p)) * p)) + 3)).toNat = N + 1) : ∀ (j k f : Nat), k + j = p.toNat → j < f → L_i_OrdersOf_0 1000000 p f (preC p (N + 1) k) (k : Int) = some (((OL p).length, (OL p).map fun t : Nat => (t : Int)), ((OL p).length, (OL p).map (cn p)), 0)
  | j, k, 0, _, h => absurd h (Nat.not_lt_zero j)
  | 0, k, f + 1, hk, _ => by
    obtain ⟨h31, h0, hpn⟩ := prB_nat (Pr_prB (i_IsField_ok hf))
    obtain rfl : k = p.toNat := by omega
    obtain ⟨c1, c2, c3⟩ := cnts_ok hf (len := N + 1) (by omega)
    show B_i_OrdersOf_0 p (L_i_OrdersOf_1 1000000 p (preC p (N + 1) p.toNat) ((p.toNat : Nat) : Int) (L_i_OrdersOf_0 1000000 p f) (1000000 + 100)) (L_i_OrdersOf_0 1000000 p f) (preC p (N + 1) p.toNat) ((p.toNat : Nat) : Int) = _
    unfold B_i_OrdersOf_0
    have := iol_go (len := N + 1) (by omega) hw (preC p (N + 1) p.toNat) (preC_len _ _ _) c3 ((p.toNat : Nat) : Int) (L_i_OrdersOf_0 1000000 p f) (N + 1) 0 (1000000 + 100) 0 [] [] (by omega) (by omega) (by omega)
    rw [if_neg (by simp; omega)]
    rw [OL_from hf (by omega) (by omega), Nat.zero_add, List.nil_append, List.nil_append] at this
    exact this
  | j + 1, k, f + 1, hk, hj => by
    obtain ⟨h31, h0, hpn⟩ := prB_nat (Pr_prB (i_IsField_ok hf))
    have hx : 0 ≤ (k : Int) ∧ (k : Int) < p := by omega
    obtain ⟨o1, o2, _⟩ := ord_ok hf hx
    have hs := preC_len p (N + 1) k
    show B_i_OrdersOf_0 p (L_i_OrdersOf_1 1000000 p (preC p (N + 1) k) (k : Int) (L_i_OrdersOf_0 1000000 p f) (1000000 + 100)) (L_i_OrdersOf_0 1000000 p f) (preC p (N + 1) k) (k : Int) = _
    unfold B_i_OrdersOf_0
    rw [if_pos (cndp (by omega)), if_pos (some_of (orderOf_eq hf hx)), orderOf_is hf hx, hw]
    simp only [Int.toNat_natCast, Nat.mul_one, Nat.add_zero]
    rw [if_pos (cnd2 (by omega)), if_pos (ble_ok (by omega)), if_pos (cnd2 (by omega)), if_pos (ble_ok (by omega)), wrap_add1 (n := k + 1) (by omega) (by omega)]
    have := iob_go hf h1 h2 hw j (k + 1) f (by omega) (by omega)
    rw [preC_add] at this
    exact this
theorem iords_eq (p : Int) : Fo_i_OrdersOf 1000000 p = some (ordsR p) := by
  unfold Fo_i_OrdersOf G_i_OrdersOf ordsR
  by_cases hf : i_IsField p = true
  · have hp := Pr_prB (i_IsField_ok hf)
    obtain ⟨h31, h0, hpn⟩ := prB_nat hp
    obtain ⟨N, _, e, h1, h2⟩ := two_pp hp
    have hw : (wI ((wI ((wI (2 * p)) * p)) + 3)).toNat = N + 1 := by rw [e, Int.toNat_natCast]
    have := iob_go hf h1 h2 hw p.toNat 0 (1000000 + 100) (by omega) (by omega)
    rw [if_pos hf, if_neg (by simp [hf]), if_pos (mk_okN e (by omega)), hw]
    exact this
  · have hf' : i_IsField p = false := by simpa using hf
    rw [if_neg hf, if_pos (by rw [hf']; rfl)]

def i_OrdersOf : Int → (Nat × List Int) × (Nat × List Int) × Int := shut ordsR
theorem iords_is (p : Int) : i_OrdersOf p = ordsR p := by
  unfold i_OrdersOf
  rw [shut_eq]
theorem tot_i_OrdersOf (p : Int) : Fo_i_OrdersOf 1000000 p = some (i_OrdersOf p) := by
  rw [iords_is]
  exact iords_eq p
def run_i_OrdersOf : List PV → Option (Bool × List TR)
  | [.v (.int .i64 p)] => some (true, enc_l2_1_l2_1_i (i_OrdersOf p))
  | _ => none
theorem sound_i_OrdersOf : Sound Try.prog 14 run_i_OrdersOf := by
  refine sound_of de_l2_1_l2_1_i SO_i_OrdersOf (by kernel_rfl) Try.func14 Try.ntmps14 rfl (by kernel_rfl) ?_
  intro W pvs avs rs hargs hrun
  unfold run_i_OrdersOf at hrun
  split at hrun
  · simp only [Option.some.injEq, Prod.mk.injEq] at hrun
    obtain ⟨hp, rfl⟩ := hrun
    rename_i p
    exact ⟨_, _, _, hargs, rfl, (eq_i_OrdersOf _ p).trans (tot_i_OrdersOf p)⟩
  · cases hrun

def S_s_OrdersOf : Sums := ⟨tblS [(31, run_s_l01Numbers), (32, run_s_l05Order)], tblM []⟩
theorem SO_s_OrdersOf : SumsOK Try.prog S_s_OrdersOf := ⟨tblS_ok ⟨⟨Try.call31, sound_s_l01Numbers⟩, ⟨Try.call32, sound_s_l05Order⟩, True.intro⟩, tblM_ok True.intro⟩
def T_s_OrdersOf_0 (p : Int) (l19 : List Int) (j_s : Int) : Tab := ⟨[.val (.int .i64 p), .junk, .val (.slice none 0 0), .val (.slice none 0 0), .val (.int .i64 0), .val (.int .i64 (s_l01Numbers p [])), .row 76, .val (.int .i64 j_s), .junk, .junk, .junk, .val (.int .i64 p), .val (.int .i64 (s_l01Numbers p [])), .val (.int .i64 (s_l01Numbers p [])), .val (.bool ((s_l01Numbers p []) != 0)), .junk, .val (.int .i64 p), .val (.int .i64 (wI (4 * p))), .val (.int .i64 (wI ((wI (4 * p)) + 4))), .row 76, .junk, .junk, .junk, .junk, .junk, .junk, .junk, .junk, .junk, .junk, .junk, .junk, .junk, .junk, .junk, .junk, .junk, .junk, .junk, .junk, .junk, .junk, .junk, .junk, .junk, .junk, .junk, .junk, .junk, .junk, .junk, .junk, .junk, .junk, .junk, .junk, .junk, .junk, .junk], [(76, .row 2 1 ((wI ((wI (4 * p)) + 4)).toNat) (.ints l19))]⟩
def T_s_OrdersOf_1 (p : Int) (l19 : List Int) (j_s : Int) (l33 : List Int) (l34 : List Int) (m33 : Nat) (m34 : Nat) (j_n : Int) : Tab := ⟨[.val (.int .i64 p), .junk, .val (.slice none 0 0), .val (.slice none 0 0), .val (.int .i64 0), .val (.int .i64 (s_l01Numbers p [])), .row 76, .val (.int .i64 j_s), .row 132, .row 136, .val (.int .i64 j_n), .val (.int .i64 p), .val (.int .i64 (s_l01Numbers p [])), .val (.int .i64 (s_l01Numbers p [])), .val (.bool ((s_l01Numbers p []) != 0)), .junk, .val (.int .i64 p), .val (.int .i64 (wI (4 * p))), .val (.int .i64 (wI ((wI (4 * p)) + 4))), .row 76, .val (.int .i64 j_s), .val (.int .i64 p), .val (.bool (decide (j_s < p))), .junk, .junk, .junk, .junk, .junk, .junk, .junk, .junk, .junk, .junk, .junk, .junk, .junk, .junk, .junk, .junk, .junk, .junk, .junk, .junk, .junk, .junk, .junk, .junk, .junk, .junk, .junk, .junk, .junk, .junk, .junk, .junk, .junk, .junk, .junk, .junk], [(76, .row 2 1 ((wI ((wI (4 * p)) + 4)).toNat) (.ints l19)), (132, .row 2 1 m33 (.ints l33)), (136, .row 2 1 m34 (.ints l34))]⟩
def X_s_OrdersOf_1 (P : Program) (fu : Nat) (p : Int) (l19 : List Int) (j_s : Int) (rc0 : Tab → Option ((Nat × List Int) × (Nat × List Int) × Int)) (f : Nat) (l33 : List Int) (l34 : List Int) (m33 : Nat) (m34 : Nat) (j_n : Int) : Option ((Nat × List Int) × (Nat × List Int) × Int) := loopK (exec P S_s_OrdersOf 59 (fun _ => fu + 100) (Code.sub [1, 1, 1, 1, 1, 0, 1, 0, 0] (bodyF P 15))) f (T_s_OrdersOf_1 p l19 j_s l33 l34 m33 m34 j_n) (kBlock 2 (kSeq (fun zs9 => exec P S_s_OrdersOf 59 (fun _ => fu + 100) (Code.sub [1, 1, 1, 1, 1, 1] (bodyF P 15)) zs9 (finT P 15 dec_l2_1_l2_1_i)) (finT P 15 dec_l2_1_l2_1_i)))
def B_s_OrdersOf_1 (p : Int) (l19 : List Int) (j_s : Int) (rec0 : (List Int) → Int → Option ((Nat × List Int) × (Nat × List Int) × Int)) (rec1 : (List Int) → (List Int) → Nat → Nat → Int → Option ((Nat × List Int) × (Nat × List Int) × Int)) (l33 : List Int) (l34 : List Int) (m33 : Nat) (m34 : Nat) (j_n : Int) : Option ((Nat × List Int) × (Nat × List Int) × Int) :=
  (if (decide (j_n < (((wI ((wI (4 * p)) + 4)).toNat : Nat) : Int))) = true then (if (decide (0 ≤ j_n) && decide (j_n < (((wI ((wI (4 * p)) + 4)).toNat : Nat) : Int))) = true then (if (Nat.ble (j_n.toNat * 1 + 1) l19.length) = true then (if (decide ((l19.getD (j_n.toNat * 1) 0) > 0)) = true then (if (Nat.ble 1 1 && Nat.ble (m33 + 1) 1000000 && Nat.beq 1 (1)) = true then (if (decide (0 ≤ j_n) && decide (j_n < (((wI ((wI (4 * p)) + 4)).toNat : Nat) : Int))) = true then (if (Nat.ble (j_n.toNat * 1 + 1) l19.length) = true then (if (Nat.ble 1 1 && Nat.ble (m34 + 1) 1000000 && Nat.beq 1 (1)) = true then rec1 (l33 ++ [j_n]) (l34 ++ [l19.getD (j_n.toNat * 1) 0]) (m33 + 1) (m34 + 1) (wI (j_n + 1)) else none) else none) else none) else none) else rec1 l33 l34 m33 m34 (wI (j_n + 1))) else none) else none) else some ((m33, l33), (m34, l34), 0))
def L_s_OrdersOf_1 (fu : Nat) (p : Int) (l19 : List Int) (j_s : Int) (rec0 : (List Int) → Int → Option ((Nat × List Int) × (Nat × List Int) × Int)) : Nat → (List Int) → (List Int) → Nat → Nat → Int → Option ((Nat × List Int) × (Nat × List Int) × Int)
  | 0, _, _, _, _, _ => none
  | f + 1, l33, l34, m33, m34, j_n => B_s_OrdersOf_1 p l19 j_s rec0 (L_s_OrdersOf_1 fu p l19 j_s rec0 f) l33 l34 m33 m34 j_n
theorem loop_s_OrdersOf_1 (fu : Nat) (p : Int) (l19 : List Int) (j_s : Int) (rc0 : Tab → Option ((Nat × List Int) × (Nat × List Int) × Int)) : ∀ (f : Nat) (l33 : List Int) (l34 : List Int) (m33 : Nat) (m34 : Nat) (j_n : Int), X_s_OrdersOf_1 Try.prog fu p l19 j_s rc0 f l33 l34 m33 m34 j_n = L_s_OrdersOf_1 fu p l19 j_s (fun l19 j_s => rc0 (T_s_OrdersOf_0 p l19 j_s)) f l33 l34 m33 m34 j_n := by
  intro f
  induction f with
  | zero => intros; rfl
  | succ f ih =>
    intro l33 l34 m33 m34 j_n
    have h1 : X_s_OrdersOf_1 Try.prog fu p l19 j_s rc0 (f + 1) l33 l34 m33 m34 j_n = B_s_OrdersOf_1 p l19 j_s (fun l19 j_s => rc0 (T_s_OrdersOf_0 p l19 j_s)) (X_s_OrdersOf_1 Try.prog fu p l19 j_s rc0 f) l33 l34 m33 m34 j_n := by kernel_rfl
    have h2 : X_s_OrdersOf_1 Try.prog fu p l19 j_s rc0 f = L_s_OrdersOf_1 fu p l19 j_s (fun l19 j_s => rc0 (T_s_OrdersOf_0 p l19 j_s)) f := by funext l33 l34 m33 m34 j_n; exact ih l33 l34 m33 m34 j_n
    rw [h1, h2]
    rfl
def X_s_OrdersOf_0 (P : Program) (fu : Nat) (p : Int) (f : Nat) (l19 : List Int) (j_s : Int) : Option ((Nat × List Int) × (Nat × List Int) × Int) := loopK (exec P S_s_OrdersOf 59 (fun _ => fu + 100) (Code.sub [1, 1, 1, 0, 1, 0, 0] (bodyF P 15))) f (T_s_OrdersOf_0 p l19 j_s) (kBlock 0 (kSeq (fun zs9 => exec P S_s_OrdersOf 59 (fun _ => fu + 100) (Code.sub [1, 1, 1, 1] (bodyF P 15)) zs9 (finT P 15 dec_l2_1_l2_1_i)) (finT P 15 dec_l2_1_l2_1_i)))
def B_s_OrdersOf_0 (p : Int) (lo1 : (List Int) → (List Int) → Nat → Nat → Int → Option ((Nat × List Int) × (Nat × List Int) × Int)) (rec0 : (List Int) → Int → Option ((Nat × List Int) × (Nat × List Int) × Int)) (l19 : List Int) (j_s : Int) : Option ((Nat × List Int) × (Nat × List Int) × Int) :=
  (if (decide (j_s < p)) = true then (if ((Fo_s_l05Order 1000000 p j_s).isSome) = true then (if (decide (0 ≤ (s_l05Order p j_s)) && decide ((s_l05Order p j_s) < (((wI ((wI (4 * p)) + 4)).toNat : Nat) : Int))) = true then (if (Nat.ble (((s_l05Order p j_s).toNat) * 1 + 1) l19.length) = true then (if (decide (0 ≤ (s_l05Order p j_s)) && decide ((s_l05Order p j_s) < (((wI ((wI (4 * p)) + 4)).toNat : Nat) : Int))) = true then (if (Nat.ble (((s_l05Order p j_s).toNat) * 1 + 1) l19.length) = true then rec0 (l19.set (((s_l05Order p j_s).toNat) * 1 + 0) (wI ((l19.getD (((s_l05Order p j_s).toNat) * 1) 0) + 1))) (wI (j_s + 1)) else none) else none) else none) else none) else none) else lo1 [] [] 0 0 1)
def L_s_OrdersOf_0 (fu : Nat) (p : Int) : Nat → (List Int) → Int → Option ((Nat × List Int) × (Nat × List Int) × Int)
  | 0, _, _ => none
  | f + 1, l19, j_s => B_s_OrdersOf_0 p (L_s_OrdersOf_1 fu p l19 j_s (L_s_OrdersOf_0 fu p f) (fu + 100)) (L_s_OrdersOf_0 fu p f) l19 j_s
theorem loop_s_OrdersOf_0 (fu : Nat) (p : Int) : ∀ (f : Nat) (l19 : List Int) (j_s : Int), X_s_OrdersOf_0 Try.prog fu p f l19 j_s = L_s_OrdersOf_0 fu p f l19 j_s := by
  intro f
  induction f with
  | zero => intros; rfl
  | succ f ih =>
    intro l19 j_s
    have h1 : X_s_OrdersOf_0 Try.prog fu p (f + 1) l19 j_s = B_s_OrdersOf_0 p (X_s_OrdersOf_1 Try.prog fu p l19 j_s (fun t => loopK (exec Try.prog S_s_OrdersOf 59 (fun _ => fu + 100) (Code.sub [1, 1, 1, 0, 1, 0, 0] (bodyF Try.prog 15))) f t (kBlock 0 (kSeq (fun zs9 => exec Try.prog S_s_OrdersOf 59 (fun _ => fu + 100) (Code.sub [1, 1, 1, 1] (bodyF Try.prog 15)) zs9 (finT Try.prog 15 dec_l2_1_l2_1_i)) (finT Try.prog 15 dec_l2_1_l2_1_i)))) (fu + 100)) (X_s_OrdersOf_0 Try.prog fu p f) l19 j_s := by kernel_rfl
    have h2 : X_s_OrdersOf_0 Try.prog fu p f = L_s_OrdersOf_0 fu p f := by funext l19 j_s; exact ih l19 j_s
    have c1 : (X_s_OrdersOf_1 Try.prog fu p l19 j_s (fun t => loopK (exec Try.prog S_s_OrdersOf 59 (fun _ => fu + 100) (Code.sub [1, 1, 1, 0, 1, 0, 0] (bodyF Try.prog 15))) f t (kBlock 0 (kSeq (fun zs9 => exec Try.prog S_s_OrdersOf 59 (fun _ => fu + 100) (Code.sub [1, 1, 1, 1] (bodyF Try.prog 15)) zs9 (finT Try.prog 15 dec_l2_1_l2_1_i)) (finT Try.prog 15 dec_l2_1_l2_1_i)))) (fu + 100)) = L_s_OrdersOf_1 fu p l19 j_s (X_s_OrdersOf_0 Try.prog fu p f) (fu + 100) := by funext l33 l34 m33 m34 j_n; exact loop_s_OrdersOf_1 fu p l19 j_s (fun t => loopK (exec Try.prog S_s_OrdersOf 59 (fun _ => fu + 100) (Code.sub [1, 1, 1, 0, 1, 0, 0] (bodyF Try.prog 15))) f t (kBlock 0 (kSeq (fun zs9 => exec Try.prog S_s_OrdersOf 59 (fun _ => fu + 100) (Code.sub [1, 1, 1, 1] (bodyF Try.prog 15)) zs9 (finT Try.prog 15 dec_l2_1_l2_1_i)) (finT Try.prog 15 dec_l2_1_l2_1_i)))) (fu + 100) l33 l34 m33 m34 j_n
    rw [h1, c1, h2]
    rfl
def G_s_OrdersOf (p : Int) (lo0 : (List Int) → Int → Option ((Nat × List Int) × (Nat × List Int) × Int)) : Option ((Nat × List Int) × (Nat × List Int) × Int) :=
  (if ((s_l01Numbers p []) != 0) = true then some ((0, []), (0, []), (s_l01Numbers p [])) else (if (decide (0 ≤ wI ((wI (4 * p)) + 4)) && decide (wI ((wI (4 * p)) + 4) ≤ 2000000) && (wI ((wI (4 * p)) + 4)) == (wI ((wI (4 * p)) + 4))) = true then lo0 (List.replicate ((wI ((wI (4 * p)) + 4)).toNat) 0) 0 else none))
def Fo_s_OrdersOf (fu : Nat) (p : Int) : Option ((Nat × List Int) × (Nat × List Int) × Int) := G_s_OrdersOf p (L_s_OrdersOf_0 fu p (fu + 100))
theorem eqg_s_OrdersOf (fu : Nat) (p : Int) : execT Try.prog S_s_OrdersOf 15 59 (fun _ => fu + 100) dec_l2_1_l2_1_i [.v (.int .i64 p)] = G_s_OrdersOf p (L_s_OrdersOf_0 fu p (fu + 100)) := by
  have h1 : execT Try.prog S_s_OrdersOf 15 59 (fun _ => fu + 100) dec_l2_1_l2_1_i [.v (.int .i64 p)] = G_s_OrdersOf p (X_s_OrdersOf_0 Try.prog fu p (fu + 100)) := by kernel_rfl
  have c0 : X_s_OrdersOf_0 Try.prog fu p (fu + 100) = L_s_OrdersOf_0 fu p (fu + 100) := by funext l19 j_s; exact loop_s_OrdersOf_0 fu p (fu + 100) l19 j_s
  rw [h1, c0]
theorem eq_s_OrdersOf (fu : Nat) (p : Int) : execT Try.prog S_s_OrdersOf 15 59 (fun _ => fu + 100) dec_l2_1_l2_1_i [.v (.int .i64 p)] = Fo_s_OrdersOf fu p := eqg_s_OrdersOf fu p
theorem sol_go {p : Int} {len : Nat} (hlen : len ≤ 5000) (hw : (wI ((wI (4 * p)) + 4)).toNat = len) (l : List Int) (hl : l.length = len) (hc : ∀ j, l.getD j 0 = cn p j) (js : Int) (rec0 : List Int → Int → Option ((Nat × List Int) × (Nat × List Int) × Int)) :
    ∀ (j t f a : Nat) (A B : List Int), t + j = len → j < f → a ≤ t → L_s_OrdersOf_1 1000000 p l js rec0 f A B a a (t : Int) = some ((a + ((List.range' t j).filter (pos p)).length, A ++ ((List.range' t j).filter (pos p)).map fun t : Nat => (t : Int)), (a + ((List.range' t j).filter (pos p)).length, B ++ ((List.range' t j).filter (pos p)).map (cn p)), 0)
  | j, t, 0, a, A, B, _, h, _ => absurd h (Nat.not_lt_zero j)
  | 0, t, f + 1, a, A, B, ht, _, _ => by
    obtain rfl : t = len := by omega
    show B_s_OrdersOf_1 p l js rec0 (L_s_OrdersOf_1 1000000 p l js rec0 f) A B a a (t : Int) = _
    unfold B_s_OrdersOf_1
    rw [hw, if_neg (by simp)]
    simp
  | j + 1, t, f + 1, a, A, B, ht, hf, ha => by
    show B_s_OrdersOf_1 p l js rec0 (L_s_OrdersOf_1 1000000 p l js rec0 f) A B a a (t : Int) = _
    unfold B_s_OrdersOf_1
    rw [hw, if_pos (cnd (by omega)), if_pos (cnd2 (by omega)), Int.toNat_natCast, if_pos (row1_ok hl (by omega)), Nat.mul_one, hc, wrap_add1 (n := t + 1) (by omega) (by omega), List.range'_succ, List.filter_cons]
    have e : decide (cn p t > 0) = pos p t := rfl
    rw [e]
    cases pos p t
    · simp only [Bool.false_eq_true, if_false]
      exact sol_go hlen hw l hl hc js rec0 j (t + 1) f a A B (by omega) (by omega) (by omega)
    · simp only [if_true]
      rw [if_pos (ap_ok (by omega)), if_pos (cnd2 (by omega)), if_pos (ble_ok (by omega)), if_pos (ap_ok (by omega)), sol_go hlen hw l hl hc js rec0 j (t + 1) f (a + 1) _ _ (by omega) (by omega) (by omega), app_cons, app_cons, List.length_cons, Nat.add_assoc, Nat.add_comm 1]
      rfl
theorem sob_go {p : Int} (hf : i_IsField p = true) {N : Nat} (h1 : p.toNat + 2 ≤ N) (h2 : N ≤ 3000) (hw : (wI ((wI (4 * p)) + 4)).toNat = N) : ∀ (j k f : Nat), k + j = p.toNat → j < f → L_s_OrdersOf_0 1000000 p f (preC p N k) (k : Int) = some (((OL p).length, (OL p).map fun t : Nat => (t : Int)), ((OL p).length, (OL p).map (cn p)), 0)
  | j, k, 0, _, h => absurd h (Nat.not_lt_zero j)
  | 0, k, f + 1, hk, _ => by
    obtain ⟨h31, h0, hpn⟩ := prB_nat (Pr_prB (i_IsField_ok hf))
    obtain rfl : k = p.toNat := by omega
    obtain ⟨c1, c2, c3⟩ := cnts_ok hf (len := N) (by omega)
    show B_s_OrdersOf_0 p (L_s_OrdersOf_1 1000000 p (preC p N p.toNat) ((p.toNat : Nat) : Int) (L_s_OrdersOf_0 1000000 p f) (1000000 + 100)) (L_s_OrdersOf_0 1000000 p f) (preC p N p.toNat) ((p.toNat : Nat) : Int) = _
    unfold B_s_OrdersOf_0
    have := sol_go (len := N) (by omega) hw (preC p N p.toNat) (preC_len _ _ _) c3 ((p.toNat : Nat) : Int) (L_s_OrdersOf_0 1000000 p f) (N - 1) 1 (1000000 + 100) 0 [] [] (by omega) (by omega) (by omega)
    rw [if_neg (by simp; omega)]
    rw [OL_from hf (by omega) (by omega), Nat.zero_add, List.nil_append, List.nil_append] at this
    exact this
  | j + 1, k, f + 1, hk, hj => by
    obtain ⟨h31, h0, hpn⟩ := prB_nat (Pr_prB (i_IsField_ok hf))
    have hx : 0 ≤ (k : Int) ∧ (k : Int) < p := by omega
    obtain ⟨o1, o2, _⟩ := ord_ok hf hx
    have hs := preC_len p N k
    show B_s_OrdersOf_0 p (L_s_OrdersOf_1 1000000 p (preC p N k) (k : Int) (L_s_OrdersOf_0 1000000 p f) (1000000 + 100)) (L_s_OrdersOf_0 1000000 p f) (preC p N k) (k : Int) = _
    unfold B_s_OrdersOf_0
    rw [if_pos (cndp (by omega)), if_pos (some_of (sorder_eq hf hx)), sorder_is hf hx, hw]
    simp only [Int.toNat_natCast, Nat.mul_one, Nat.add_zero]
    rw [if_pos (cnd2 (by omega)), if_pos (ble_ok (by omega)), if_pos (cnd2 (by omega)), if_pos (ble_ok (by omega)), wrap_add1 (n := k + 1) (by omega) (by omega)]
    have := sob_go hf h1 h2 hw j (k + 1) f (by omega) (by omega)
    rw [preC_add] at this
    exact this
theorem sords_eq (p : Int) : Fo_s_OrdersOf 1000000 p = some (ordsR p) := by
  unfold Fo_s_OrdersOf G_s_OrdersOf ordsR
  rw [num0]
  by_cases hf : i_IsField p = true
  · have hp := Pr_prB (i_IsField_ok hf)
    obtain ⟨h31, h0, hpn⟩ := prB_nat hp
    have e := four_p hp
    have hw : (wI ((wI (4 * p)) + 4)).toNat = 4 * p.toNat + 4 := by rw [e, Int.toNat_natCast]
    have := sob_go hf (by omega) (by omega) hw p.toNat 0 (1000000 + 100) (by omega) (by omega)
    rw [if_pos hf, if_pos hf, if_neg (by decide), if_pos (mk_okN e (by omega)), hw]
    exact this
  · rw [if_neg hf, if_neg hf, if_pos (by decide)]

def s_OrdersOf : Int → (Nat × List Int) × (Nat × List Int) × Int := shut ordsR
theorem sords_is (p : Int) : s_OrdersOf p = ordsR p := by
  unfold s_OrdersOf
  rw [shut_eq]
theorem tot_s_OrdersOf (p : Int) : Fo_s_OrdersOf 1000000 p = some (s_OrdersOf p) := by
  rw [sords_is]
  exact sords_eq p
def run_s_OrdersOf : List PV → Option (Bool × List TR)
  | [.v (.int .i64 p)] => some (true, enc_l2_1_l2_1_i (s_OrdersOf p))
  | _ => none
theorem sound_s_OrdersOf : Sound Try.prog 15 run_s_OrdersOf := by
  refine sound_of de_l2_1_l2_1_i SO_s_OrdersOf (by kernel_rfl) Try.func15 Try.ntmps15 rfl (by kernel_rfl) ?_
  intro W pvs avs rs hargs hrun
  unfold run_s_OrdersOf at hrun
  split at hrun
  · simp only [Option.some.injEq, Prod.mk.injEq] at hrun
    obtain ⟨hp, rfl⟩ := hrun
    rename_i p
    exact ⟨_, _, _, hargs, rfl, (eq_s_OrdersOf _ p).trans (tot_s_OrdersOf p)⟩
  · cases hrun

abbrev k3_0 (coden : Nat) (codel : List Int) : Int × Int := (s_DrawOrderOfSpread coden codel)
abbrev k3_1 (coden : Nat) (codel : List Int) : Int × Int := (i_OrderOfSpread ((k3_0 coden codel).1) ((k3_0 coden codel).2))
abbrev k3_2 (coden : Nat) (codel : List Int) : Int × Int := (s_OrderOfSpread ((k3_0 coden codel).1) ((k3_0 coden codel).2))
abbrev k3_3 (coden : Nat) (codel : List Int) : Int × Int := (i_PeriodOfSpread ((k3_0 coden codel).1) ((k3_0 coden codel).2))
abbrev k3_4 (coden : Nat) (codel : List Int) : Int × Int := (s_PeriodOfSpread ((k3_0 coden codel).1) ((k3_0 coden codel).2))
abbrev k3_5 (coden : Nat) (codel : List Int) : (Nat × List Int) × Int := (i_SpreadsOfOrder ((k3_0 coden codel).1) ((k3_1 coden codel).1))
abbrev k3_6 (coden : Nat) (codel : List Int) : Int × Int := (i_SpreadPolynomial ((k3_0 coden codel).1) (wI (((k3_3 coden codel).1) + 1)) ((k3_0 coden codel).2))
abbrev k3_7 (coden : Nat) (codel : List Int) : Bool := (l_hasInt (((k3_5 coden codel).1).1) (((k3_5 coden codel).1).2) ((k3_0 coden codel).2))
abbrev k3_8 (coden : Nat) (codel : List Int) : (Nat × List Int) × (Nat × List Int) × Int := (i_OrdersOf (s_DrawOrdersOf coden codel))
abbrev k3_9 (coden : Nat) (codel : List Int) : (Nat × List Int) × (Nat × List Int) × Int := (s_OrdersOf (s_DrawOrdersOf coden codel))
abbrev k3_10 (coden : Nat) (codel : List Int) : Bool := (l_likeInts (((k3_8 coden codel).1).1) (((k3_8 coden codel).1).2) (((k3_9 coden codel).1).1) (((k3_9 coden codel).1).2))
abbrev k3_11 (coden : Nat) (codel : List Int) : Bool := (l_likeInts (((k3_8 coden codel).2.1).1) (((k3_8 coden codel).2.1).2) (((k3_9 coden codel).2.1).1) (((k3_9 coden codel).2.1).2))
abbrev k3_12 (coden : Nat) (codel : List Int) : Int := (l_sum (((k3_8 coden codel).2.1).1) (((k3_8 coden codel).2.1).2))
abbrev k3_13 (coden : Nat) (codel : List Int) : (Nat × List Int) × Int := (i_SpreadsOfOrder (s_DrawOrdersOf coden codel) ((((k3_8 coden codel).1).2).getD 0 0))
abbrev k3_14 (coden : Nat) (codel : List Int) : Int × Int × Int := (i_WalkRound ((s_DrawWalkRound coden codel).1) ((s_DrawWalkRound coden codel).2.1) ((s_DrawWalkRound coden codel).2.2))
abbrev k3_15 (coden : Nat) (codel : List Int) : Int × Int × Int := (s_WalkRound ((s_DrawWalkRound coden codel).1) ((s_DrawWalkRound coden codel).2.1) ((s_DrawWalkRound coden codel).2.2))
abbrev k3_16 (coden : Nat) (codel : List Int) : (Nat × List Int) × Int := (i_WalkOf ((s_DrawWalkRound coden codel).1) ((s_DrawWalkRound coden codel).2.1) ((s_DrawWalkRound coden codel).2.2) (wI (((k3_14 coden codel).1) + ((k3_14 coden codel).2.1))))
abbrev k3_17 (coden : Nat) (codel : List Int) : (Nat × List Int) × Int := (i_WalkOf ((s_DrawWalkOf coden codel).1) ((s_DrawWalkOf coden codel).2.1) ((s_DrawWalkOf coden codel).2.2.1) ((s_DrawWalkOf coden codel).2.2.2))
abbrev k3_18 (coden : Nat) (codel : List Int) : (Nat × List Int) × Int := (s_WalkOf ((s_DrawWalkOf coden codel).1) ((s_DrawWalkOf coden codel).2.1) ((s_DrawWalkOf coden codel).2.2.1) ((s_DrawWalkOf coden codel).2.2.2))
abbrev k3_19 (coden : Nat) (codel : List Int) : Int × Int := (s_DrawSpreadsOfOrder coden codel)
abbrev k3_20 (coden : Nat) (codel : List Int) : (Nat × List Int) × Int := (i_SpreadsOfOrder ((k3_19 coden codel).1) ((k3_19 coden codel).2))
abbrev k3_21 (coden : Nat) (codel : List Int) : (Nat × List Int) × Int := (s_SpreadsOfOrder ((k3_19 coden codel).1) ((k3_19 coden codel).2))
abbrev k3_22 (coden : Nat) (codel : List Int) : Bool := (l_likeInts (((k3_17 coden codel).1).1) (((k3_17 coden codel).1).2) (((k3_18 coden codel).1).1) (((k3_18 coden codel).1).2))
abbrev k3_23 (coden : Nat) (codel : List Int) : Bool := (l_likeInts (((k3_20 coden codel).1).1) (((k3_20 coden codel).1).2) (((k3_21 coden codel).1).1) (((k3_21 coden codel).1).2))
def S_l_FnSpreadOrders : Sums := ⟨tblS [(4, run_l_big), (5, run_s_DrawOrderOfSpread), (6, run_i_OrderOfSpread), (7, run_s_OrderOfSpread), (8, run_i_PeriodOfSpread), (9, run_s_PeriodOfSpread), (10, run_i_SpreadsOfOrder), (11, run_i_SpreadPolynomial), (12, run_l_hasInt), (13, run_s_DrawOrdersOf), (14, run_i_OrdersOf), (15, run_s_OrdersOf), (16, run_l_likeInts), (17, run_l_sum), (18, run_s_DrawWalkRound), (19, run_i_WalkRound), (20, run_s_WalkRound), (21, run_i_WalkOf), (22, run_s_DrawWalkOf), (23, run_s_WalkOf), (24, run_s_DrawSpreadsOfOrder), (25, run_s_SpreadsOfOrder)], tblM []⟩
theorem SO_l_FnSpreadOrders : SumsOK Try.prog S_l_FnSpreadOrders := ⟨tblS_ok ⟨⟨Try.call4, sound_l_big⟩, ⟨Try.call5, sound_s_DrawOrderOfSpread⟩, ⟨Try.call6, sound_i_OrderOfSpread⟩, ⟨Try.call7, sound_s_OrderOfSpread⟩, ⟨Try.call8, sound_i_PeriodOfSpread⟩, ⟨Try.call9, sound_s_PeriodOfSpread⟩, ⟨Try.call10, sound_i_SpreadsOfOrder⟩, ⟨Try.call11, sound_i_SpreadPolynomial⟩, ⟨Try.call12, sound_l_hasInt⟩, ⟨Try.call13, sound_s_DrawOrdersOf⟩, ⟨Try.call14, sound_i_OrdersOf⟩, ⟨Try.call15, sound_s_OrdersOf⟩, ⟨Try.call16, sound_l_likeInts⟩, ⟨Try.call17, sound_l_sum⟩, ⟨Try.call18, sound_s_DrawWalkRound⟩, ⟨Try.call19, sound_i_WalkRound⟩, ⟨Try.call20, sound_s_WalkRound⟩, ⟨Try.call21, sound_i_WalkOf⟩, ⟨Try.call22, sound_s_DrawWalkOf⟩, ⟨Try.call23, sound_s_WalkOf⟩, ⟨Try.call24, sound_s_DrawSpreadsOfOrder⟩, ⟨Try.call25, sound_s_SpreadsOfOrder⟩, True.intro⟩, tblM_ok True.intro⟩
def T_l_FnSpreadOrders_0 (coden : Nat) (codel : List Int) (i : Int) : Tab := ⟨[.row 0, .junk, .val (.bool false), .val (.int .i64 ((k3_0 coden codel).1)), .val (.int .i64 ((k3_0 coden codel).2)), .val (.int .i64 ((k3_1 coden codel).1)), .val (.int .i64 ((k3_1 coden codel).2)), .val (.int .i64 ((k3_2 coden codel).1)), .val (.int .i64 ((k3_2 coden codel).2)), .val (.int .i64 ((k3_3 coden codel).1)), .val (.int .i64 ((k3_3 coden codel).2)), .val (.int .i64 ((k3_4 coden codel).1)), .val (.int .i64 ((k3_4 coden codel).2)), .row 424, .val (.int .i64 ((k3_5 coden codel).2)), .val (.int .i64 ((k3_6 coden codel).1)), .val (.int .i64 ((k3_6 coden codel).2)), .val (.int .i64 (s_DrawOrdersOf coden codel)), .row 592, .row 593, .val (.int .i64 ((k3_8 coden codel).2.2)), .row 616, .row 617, .val (.int .i64 ((k3_9 coden codel).2.2)), .val (.int .i64 i), .junk, .junk, .junk, .junk, .junk, .junk, .junk, .junk, .junk, .junk, .junk, .junk, .junk, .junk, .junk, .junk, .junk, .junk, .junk, .junk, .junk, .junk, .junk, .junk, .junk, .junk, .junk, .row 0, .val (.bool (l_big coden codel)), .junk, .row 0, .junk, .val (.int .i64 ((k3_0 coden codel).1)), .val (.int .i64 ((k3_0 coden codel).2)), .junk, .val (.int .i64 ((k3_0 coden codel).1)), .val (.int .i64 ((k3_0 coden codel).2)), .junk, .val (.int .i64 ((k3_1 coden codel).1)), .val (.int .i64 ((k3_1 coden codel).2)), .junk, .val (.int .i64 ((k3_0 coden codel).1)), .val (.int .i64 ((k3_0 coden codel).2)), .junk, .val (.int .i64 ((k3_2 coden codel).1)), .val (.int .i64 ((k3_2 coden codel).2)), .junk, .val (.int .i64 ((k3_0 coden codel).1)), .val (.int .i64 ((k3_0 coden codel).2)), .junk, .val (.int .i64 ((k3_3 coden codel).1)), .val (.int .i64 ((k3_3 coden codel).2)), .junk, .val (.int .i64 ((k3_0 coden codel).1)), .val (.int .i64 ((k3_0 coden codel).2)), .junk, .val (.int .i64 ((k3_4 coden codel).1)), .val (.int .i64 ((k3_4 coden codel).2)), .val (.int .i64 ((k3_1 coden codel).2)), .val (.int .i64 ((k3_2 coden codel).2)), .val (.bool (((k3_1 coden codel).2) != ((k3_2 coden codel).2))), .val (.bool false), .val (.int .i64 ((k3_1 coden codel).1)), .val (.int .i64 ((k3_2 coden codel).1)), .val (.bool (((k3_1 coden codel).1) != ((k3_2 coden codel).1))), .val (.bool (((k3_1 coden codel).1) != ((k3_2 coden codel).1))), .val (.bool false), .val (.int .i64 ((k3_3 coden codel).2)), .val (.int .i64 ((k3_4 coden codel).2)), .val (.bool (((k3_3 coden codel).2) != ((k3_4 coden codel).2))), .val (.bool (((k3_3 coden codel).2) != ((k3_4 coden codel).2))), .val (.bool false), .val (.int .i64 ((k3_3 coden codel).1)), .val (.int .i64 ((k3_4 coden codel).1)), .val (.bool (((k3_3 coden codel).1) != ((k3_4 coden codel).1))), .val (.bool (((k3_3 coden codel).1) != ((k3_4 coden codel).1))), .val (.int .i64 ((k3_1 coden codel).2)), .val (.bool (((k3_1 coden codel).2) == 0)), .junk, .val (.int .i64 ((k3_0 coden codel).1)), .val (.int .i64 ((k3_1 coden codel).1)), .junk, .row 424, .val (.int .i64 ((k3_5 coden codel).2)), .junk, .val (.int .i64 ((k3_0 coden codel).1)), .val (.int .i64 ((k3_3 coden codel).1)), .val (.int .i64 (wI (((k3_3 coden codel).1) + 1))), .val (.int .i64 ((k3_0 coden codel).2)), .junk, .val (.int .i64 ((k3_6 coden codel).1)), .val (.int .i64 ((k3_6 coden codel).2)), .val (.int .i64 ((k3_5 coden codel).2)), .val (.bool (((k3_5 coden codel).2) != 0)), .val (.bool false), .val (.int .i64 ((k3_6 coden codel).2)), .val (.bool (((k3_6 coden codel).2) != 0)), .val (.bool (((k3_6 coden codel).2) != 0)), .val (.bool false), .val (.int .i64 ((k3_1 coden codel).1)), .val (.bool (decide (((k3_1 coden codel).1) < 1))), .val (.bool (decide (((k3_1 coden codel).1) < 1))), .val (.bool false), .val (.int .i64 ((k3_3 coden codel).1)), .val (.int .i64 ((k3_1 coden codel).1)), .val (.int .i64 (((k3_3 coden codel).1).tmod ((k3_1 coden codel).1))), .val (.bool ((((k3_3 coden codel).1).tmod ((k3_1 coden codel).1)) != 0)), .val (.bool ((((k3_3 coden codel).1).tmod ((k3_1 coden codel).1)) != 0)), .val (.bool false), .row 424, .val (.int .i64 ((k3_0 coden codel).2)), .val (.bool (k3_7 coden codel)), .val (.bool (!(k3_7 coden codel))), .val (.bool (!(k3_7 coden codel))), .val (.bool false), .val (.int .i64 ((k3_6 coden codel).1)), .val (.int .i64 ((k3_0 coden codel).2)), .val (.bool (((k3_6 coden codel).1) != ((k3_0 coden codel).2))), .val (.bool (((k3_6 coden codel).1) != ((k3_0 coden codel).2))), .row 0, .val (.int .i64 (s_DrawOrdersOf coden codel)), .junk, .val (.int .i64 (s_DrawOrdersOf coden codel)), .junk, .row 592, .row 593, .val (.int .i64 ((k3_8 coden codel).2.2)), .junk, .val (.int .i64 (s_DrawOrdersOf coden codel)), .junk, .row 616, .row 617, .val (.int .i64 ((k3_9 coden codel).2.2)), .val (.int .i64 ((k3_8 coden codel).2.2)), .val (.int .i64 ((k3_9 coden codel).2.2)), .val (.bool (((k3_8 coden codel).2.2) != ((k3_9 coden codel).2.2))), .val (.bool false), .row 592, .row 616, .val (.bool (k3_10 coden codel)), .val (.bool (!(k3_10 coden codel))), .val (.bool (!(k3_10 coden codel))), .val (.bool false), .row 593, .row 617, .val (.bool (k3_11 coden codel)), .val (.bool (!(k3_11 coden codel))), .val (.bool (!(k3_11 coden codel))), .val (.int .i64 ((k3_8 coden codel).2.2)), .val (.bool (((k3_8 coden codel).2.2) == 0)), .row 593, .val (.int .i64 (k3_12 coden codel)), .val (.int .i64 (s_DrawOrdersOf coden codel)), .val (.bool ((k3_12 coden codel) != (s_DrawOrdersOf coden codel))), .val (.bool false), .row 592, .val (.int .i64 ((((k3_8 coden codel).1).1 : Nat) : Int)), .row 593, .val (.int .i64 ((((k3_8 coden codel).2.1).1 : Nat) : Int)), .val (.bool (((((k3_8 coden codel).1).1 : Nat) : Int) != ((((k3_8 coden codel).2.1).1 : Nat) : Int))), .val (.bool (((((k3_8 coden codel).1).1 : Nat) : Int) != ((((k3_8 coden codel).2.1).1 : Nat) : Int))), .val (.bool false), .row 592, .ptr 592 0, .val (.int .i64 ((((k3_8 coden codel).1).2).getD 0 0)), .val (.bool (((((k3_8 coden codel).1).2).getD 0 0) != 1)), .val (.bool (((((k3_8 coden codel).1).2).getD 0 0) != 1)), .val (.bool false), .row 593, .ptr 593 0, .val (.int .i64 ((((k3_8 coden codel).2.1).2).getD 0 0)), .val (.bool (((((k3_8 coden codel).2.1).2).getD 0 0) != 1)), .val (.bool (((((k3_8 coden codel).2.1).2).getD 0 0) != 1)), .junk, .junk, .junk, .junk, .junk, .junk, .junk, .junk, .junk, .junk, .junk, .junk, .junk, .junk, .junk, .junk, .junk, .junk, .junk, .junk, .junk, .junk, .junk, .junk, .junk, .junk, .junk, .junk, .junk, .junk, .junk, .junk, .junk, .junk, .junk, .junk, .junk, .junk, .junk, .junk, .junk, .junk, .junk, .junk, .junk, .junk, .junk, .junk, .junk, .junk, .junk, .junk, .junk, .junk, .junk, .junk, .junk, .junk, .junk, .junk, .junk, .junk, .junk, .junk, .junk, .junk, .junk, .junk, .junk, .junk, .junk, .junk, .junk, .junk, .junk, .junk, .junk, .junk, .junk, .junk, .junk, .junk, .junk, .junk, .junk, .junk, .junk, .junk, .junk, .junk, .junk, .junk, .junk, .junk, .junk, .junk, .junk, .junk, .junk, .junk, .junk, .junk, .junk, .junk, .junk, .junk, .junk, .junk, .junk, .junk, .junk, .junk, .junk, .junk, .junk, .junk, .junk, .junk, .junk, .junk, .junk, .junk, .junk, .junk, .junk, .junk, .junk, .junk, .junk, .junk, .junk, .junk, .junk, .junk, .junk, .junk, .junk, .junk, .junk, .junk, .junk, .junk, .junk, .junk, .junk, .junk, .junk, .junk, .junk, .junk, .junk, .junk, .junk, .junk, .junk, .junk, .junk, .junk, .junk], [(0, .ros coden (.byts codel)), (424, .row 2 1 (((k3_5 coden codel).1).1) (.ints (((k3_5 coden codel).1).2))), (592, .row 2 1 (((k3_8 coden codel).1).1) (.ints (((k3_8 coden codel).1).2))), (593, .row 2 1 (((k3_8 coden codel).2.1).1) (.ints (((k3_8 coden codel).2.1).2))), (616, .row 2 1 (((k3_9 coden codel).1).1) (.ints (((k3_9 coden codel).1).2))), (617, .row 2 1 (((k3_9 coden codel).2.1).1) (.ints (((k3_9 coden codel).2.1).2)))]⟩
def T_l_FnSpreadOrders_1 (coden : Nat) (codel : List Int) (i : Int) : Tab := ⟨[.row 0, .junk, .val (.bool false), .val (.int .i64 ((k3_0 coden codel).1)), .val (.int .i64 ((k3_0 coden codel).2)), .val (.int .i64 ((k3_1 coden codel).1)), .val (.int .i64 ((k3_1 coden codel).2)), .val (.int .i64 ((k3_2 coden codel).1)), .val (.int .i64 ((k3_2 coden codel).2)), .val (.int .i64 ((k3_3 coden codel).1)), .val (.int .i64 ((k3_3 coden codel).2)), .val (.int .i64 ((k3_4 coden codel).1)), .val (.int .i64 ((k3_4 coden codel).2)), .junk, .junk, .junk, .junk, .val (.int .i64 (s_DrawOrdersOf coden codel)), .row 592, .row 593, .val (.int .i64 ((k3_8 coden codel).2.2)), .row 616, .row 617, .val (.int .i64 ((k3_9 coden codel).2.2)), .val (.int .i64 i), .junk, .junk, .junk, .junk, .junk, .junk, .junk, .junk, .junk, .junk, .junk, .junk, .junk, .junk, .junk, .junk, .junk, .junk, .junk, .junk, .junk, .junk, .junk, .junk, .junk, .junk, .junk, .row 0, .val (.bool (l_big coden codel)), .junk, .row 0, .junk, .val (.int .i64 ((k3_0 coden codel).1)), .val (.int .i64 ((k3_0 coden codel).2)), .junk, .val (.int .i64 ((k3_0 coden codel).1)), .val (.int .i64 ((k3_0 coden codel).2)), .junk, .val (.int .i64 ((k3_1 coden codel).1)), .val (.int .i64 ((k3_1 coden codel).2)), .junk, .val (.int .i64 ((k3_0 coden codel).1)), .val (.int .i64 ((k3_0 coden codel).2)), .junk, .val (.int .i64 ((k3_2 coden codel).1)), .val (.int .i64 ((k3_2 coden codel).2)), .junk, .val (.int .i64 ((k3_0 coden codel).1)), .val (.int .i64 ((k3_0 coden codel).2)), .junk, .val (.int .i64 ((k3_3 coden codel).1)), .val (.int .i64 ((k3_3 coden codel).2)), .junk, .val (.int .i64 ((k3_0 coden codel).1)), .val (.int .i64 ((k3_0 coden codel).2)), .junk, .val (.int .i64 ((k3_4 coden codel).1)), .val (.int .i64 ((k3_4 coden codel).2)), .val (.int .i64 ((k3_1 coden codel).2)), .val (.int .i64 ((k3_2 coden codel).2)), .val (.bool (((k3_1 coden codel).2) != ((k3_2 coden codel).2))), .val (.bool false), .val (.int .i64 ((k3_1 coden codel).1)), .val (.int .i64 ((k3_2 coden codel).1)), .val (.bool (((k3_1 coden codel).1) != ((k3_2 coden codel).1))), .val (.bool (((k3_1 coden codel).1) != ((k3_2 coden codel).1))), .val (.bool false), .val (.int .i64 ((k3_3 coden codel).2)), .val (.int .i64 ((k3_4 coden codel).2)), .val (.bool (((k3_3 coden codel).2) != ((k3_4 coden codel).2))), .val (.bool (((k3_3 coden codel).2) != ((k3_4 coden codel).2))), .val (.bool false), .val (.int .i64 ((k3_3 coden codel).1)), .val (.int .i64 ((k3_4 coden codel).1)), .val (.bool (((k3_3 coden codel).1) != ((k3_4 coden codel).1))), .val (.bool (((k3_3 coden codel).1) != ((k3_4 coden codel).1))), .val (.int .i64 ((k3_1 coden codel).2)), .val (.bool (((k3_1 coden codel).2) == 0)), .junk, .junk, .junk, .junk, .junk, .junk, .junk, .junk, .junk, .junk, .junk, .junk, .junk, .junk, .junk, .junk, .junk, .junk, .junk, .junk, .junk, .junk, .junk, .junk, .junk, .junk, .junk, .junk, .junk, .junk, .junk, .junk, .junk, .junk, .junk, .junk, .junk, .junk, .junk, .junk, .junk, .row 0, .val (.int .i64 (s_DrawOrdersOf coden codel)), .junk, .val (.int .i64 (s_DrawOrdersOf coden codel)), .junk, .row 592, .row 593, .val (.int .i64 ((k3_8 coden codel).2.2)), .junk, .val (.int .i64 (s_DrawOrdersOf coden codel)), .junk, .row 616, .row 617, .val (.int .i64 ((k3_9 coden codel).2.2)), .val (.int .i64 ((k3_8 coden codel).2.2)), .val (.int .i64 ((k3_9 coden codel).2.2)), .val (.bool (((k3_8 coden codel).2.2) != ((k3_9 coden codel).2.2))), .val (.bool false), .row 592, .row 616, .val (.bool (k3_10 coden codel)), .val (.bool (!(k3_10 coden codel))), .val (.bool (!(k3_10 coden codel))), .val (.bool false), .row 593, .row 617, .val (.bool (k3_11 coden codel)), .val (.bool (!(k3_11 coden codel))), .val (.bool (!(k3_11 coden codel))), .val (.int .i64 ((k3_8 coden codel).2.2)), .val (.bool (((k3_8 coden codel).2.2) == 0)), .row 593, .val (.int .i64 (k3_12 coden codel)), .val (.int .i64 (s_DrawOrdersOf coden codel)), .val (.bool ((k3_12 coden codel) != (s_DrawOrdersOf coden codel))), .val (.bool false), .row 592, .val (.int .i64 ((((k3_8 coden codel).1).1 : Nat) : Int)), .row 593, .val (.int .i64 ((((k3_8 coden codel).2.1).1 : Nat) : Int)), .val (.bool (((((k3_8 coden codel).1).1 : Nat) : Int) != ((((k3_8 coden codel).2.1).1 : Nat) : Int))), .val (.bool (((((k3_8 coden codel).1).1 : Nat) : Int) != ((((k3_8 coden codel).2.1).1 : Nat) : Int))), .val (.bool false), .row 592, .ptr 592 0, .val (.int .i64 ((((k3_8 coden codel).1).2).getD 0 0)), .val (.bool (((((k3_8 coden codel).1).2).getD 0 0) != 1)), .val (.bool (((((k3_8 coden codel).1).2).getD 0 0) != 1)), .val (.bool false), .row 593, .ptr 593 0, .val (.int .i64 ((((k3_8 coden codel).2.1).2).getD 0 0)), .val (.bool (((((k3_8 coden codel).2.1).2).getD 0 0) != 1)), .val (.bool (((((k3_8 coden codel).2.1).2).getD 0 0) != 1)), .junk, .junk, .junk, .junk, .junk, .junk, .junk, .junk, .junk, .junk, .junk, .junk, .junk, .junk, .junk, .junk, .junk, .junk, .junk, .junk, .junk, .junk, .junk, .junk, .junk, .junk, .junk, .junk, .junk, .junk, .junk, .junk, .junk, .junk, .junk, .junk, .junk, .junk, .junk, .junk, .junk, .junk, .junk, .junk, .junk, .junk, .junk, .junk, .junk, .junk, .junk, .junk, .junk, .junk, .junk, .junk, .junk, .junk, .junk, .junk, .junk, .junk, .junk, .junk, .junk, .junk, .junk, .junk, .junk, .junk, .junk, .junk, .junk, .junk, .junk, .junk, .junk, .junk, .junk, .junk, .junk, .junk, .junk, .junk, .junk, .junk, .junk, .junk, .junk, .junk, .junk, .junk, .junk, .junk, .junk, .junk, .junk, .junk, .junk, .junk, .junk, .junk, .junk, .junk, .junk, .junk, .junk, .junk, .junk, .junk, .junk, .junk, .junk, .junk, .junk, .junk, .junk, .junk, .junk, .junk, .junk, .junk, .junk, .junk, .junk, .junk, .junk, .junk, .junk, .junk, .junk, .junk, .junk, .junk, .junk, .junk, .junk, .junk, .junk, .junk, .junk, .junk, .junk, .junk, .junk, .junk, .junk, .junk, .junk, .junk, .junk, .junk, .junk, .junk, .junk, .junk, .junk, .junk, .junk], [(0, .ros coden (.byts codel)), (592, .row 2 1 (((k3_8 coden codel).1).1) (.ints (((k3_8 coden codel).1).2))), (593, .row 2 1 (((k3_8 coden codel).2.1).1) (.ints (((k3_8 coden codel).2.1).2))), (616, .row 2 1 (((k3_9 coden codel).1).1) (.ints (((k3_9 coden codel).1).2))), (617, .row 2 1 (((k3_9 coden codel).2.1).1) (.ints (((k3_9 coden codel).2.1).2)))]⟩
def X_l_FnSpreadOrders_0 (P : Program) (fu : Nat) (coden : Nat) (codel : List Int) (f : Nat) (i : Int) : Option (Bool) := loopK (exec P S_l_FnSpreadOrders 357 (fuelOf fu []) (Code.sub [1, 1, 1, 1, 1, 1, 1, 1, 1, 1, 1, 1, 1, 0, 1, 1, 1, 1, 0, 0] (bodyF P 3))) f (T_l_FnSpreadOrders_0 coden codel i) (kBlock 0 (kSeq (fun zs9 => exec P S_l_FnSpreadOrders 357 (fuelOf fu []) (Code.sub [1, 1, 1, 1, 1, 1, 1, 1, 1, 1, 1, 1, 1, 1] (bodyF P 3)) zs9 (finT P 3 dec_b)) (finT P 3 dec_b)))
def B_l_FnSpreadOrders_0 (coden : Nat) (codel : List Int) (rec0 : Int → Option (Bool)) (i : Int) : Option (Bool) :=
  (if (decide (i < ((((k3_8 coden codel).1).1 : Nat) : Int))) = true then (if (decide (0 ≤ i) && decide (i < ((((k3_8 coden codel).1).1 : Nat) : Int))) = true then (if (Nat.ble (i.toNat * 1 + 1) ((((k3_8 coden codel).1).2).length)) = true then (if (ok_i_SpreadsOfOrder (s_DrawOrdersOf coden codel) ((((k3_8 coden codel).1).2).getD (i.toNat * 1) 0)) = true then (if (((i_SpreadsOfOrder (s_DrawOrdersOf coden codel) ((((k3_8 coden codel).1).2).getD (i.toNat * 1) 0)).2) != 0) = true then some false else (if (decide (0 ≤ i) && decide (i < ((((k3_8 coden codel).2.1).1 : Nat) : Int))) = true then (if (Nat.ble (i.toNat * 1 + 1) ((((k3_8 coden codel).2.1).2).length)) = true then (if (((((i_SpreadsOfOrder (s_DrawOrdersOf coden codel) ((((k3_8 coden codel).1).2).getD (i.toNat * 1) 0)).1).1 : Nat) : Int) != ((((k3_8 coden codel).2.1).2).getD (i.toNat * 1) 0)) = true then some false else rec0 (wI (i + 1))) else none) else none)) else none) else none) else none) else (if (codeB coden codel) = true then (if (ok_i_WalkRound ((s_DrawWalkRound coden codel).1) ((s_DrawWalkRound coden codel).2.1) ((s_DrawWalkRound coden codel).2.2)) = true then (if (ok_s_WalkRound ((s_DrawWalkRound coden codel).1) ((s_DrawWalkRound coden codel).2.1) ((s_DrawWalkRound coden codel).2.2)) = true then (if (((k3_14 coden codel).2.2) != ((k3_15 coden codel).2.2)) = true then some false else (if (((k3_14 coden codel).1) != ((k3_15 coden codel).1)) = true then some false else (if (((k3_14 coden codel).2.1) != ((k3_15 coden codel).2.1)) = true then some false else (if (((k3_14 coden codel).2.2) == 0) = true then (if (ok_i_WalkOf ((s_DrawWalkRound coden codel).1) ((s_DrawWalkRound coden codel).2.1) ((s_DrawWalkRound coden codel).2.2) (wI (((k3_14 coden codel).1) + ((k3_14 coden codel).2.1)))) = true then (if (((k3_16 coden codel).2) != 0) = true then some false else (if (decide (((k3_14 coden codel).2.1) < 1)) = true then some false else (if (((((k3_16 coden codel).1).1 : Nat) : Int) != (wI ((wI (((k3_14 coden codel).1) + ((k3_14 coden codel).2.1))) + 1))) = true then some false else (if (decide (0 ≤ (k3_14 coden codel).1) && decide ((k3_14 coden codel).1 < ((((k3_16 coden codel).1).1 : Nat) : Int))) = true then (if (Nat.ble ((((k3_14 coden codel).1).toNat) * 1 + 1) ((((k3_16 coden codel).1).2).length)) = true then (if (decide (0 ≤ wI (((k3_14 coden codel).1) + ((k3_14 coden codel).2.1))) && decide (wI (((k3_14 coden codel).1) + ((k3_14 coden codel).2.1)) < ((((k3_16 coden codel).1).1 : Nat) : Int))) = true then (if (Nat.ble (((wI (((k3_14 coden codel).1) + ((k3_14 coden codel).2.1))).toNat) * 1 + 1) ((((k3_16 coden codel).1).2).length)) = true then (if (((((k3_16 coden codel).1).2).getD ((((k3_14 coden codel).1).toNat) * 1) 0) != ((((k3_16 coden codel).1).2).getD (((wI (((k3_14 coden codel).1) + ((k3_14 coden codel).2.1))).toNat) * 1) 0)) = true then some false else (if (codeB coden codel) = true then (if (ok_i_WalkOf ((s_DrawWalkOf coden codel).1) ((s_DrawWalkOf coden codel).2.1) ((s_DrawWalkOf coden codel).2.2.1) ((s_DrawWalkOf coden codel).2.2.2)) = true then (if (ok_s_WalkOf ((s_DrawWalkOf coden codel).1) ((s_DrawWalkOf coden codel).2.1) ((s_DrawWalkOf coden codel).2.2.1) ((s_DrawWalkOf coden codel).2.2.2)) = true then (if (codeB coden codel) = true then (if (ok_i_SpreadsOfOrder ((k3_19 coden codel).1) ((k3_19 coden codel).2)) = true then (if (ok_s_SpreadsOfOrder ((k3_19 coden codel).1) ((k3_19 coden codel).2)) = true then (if (((k3_17 coden codel).2) == ((k3_18 coden codel).2)) = true then (if (lenB (((k3_17 coden codel).1).1) 1 (((k3_17 coden codel).1).2) && lenB (((k3_18 coden codel).1).1) 1 (((k3_18 coden codel).1).2)) = true then (if (k3_22 coden codel) = true then (if (((k3_20 coden codel).2) == ((k3_21 coden codel).2)) = true then (if (lenB (((k3_20 coden codel).1).1) 1 (((k3_20 coden codel).1).2) && lenB (((k3_21 coden codel).1).1) 1 (((k3_21 coden codel).1).2)) = true then some (k3_23 coden codel) else none) else some false) else some false) else none) else some false) else none) else none) else none) else none) else none) else none)) else none) else none) else none) else none)))) else none) else (if (codeB coden codel) = true then (if (ok_i_WalkOf ((s_DrawWalkOf coden codel).1) ((s_DrawWalkOf coden codel).2.1) ((s_DrawWalkOf coden codel).2.2.1) ((s_DrawWalkOf coden codel).2.2.2)) = true then (if (ok_s_WalkOf ((s_DrawWalkOf coden codel).1) ((s_DrawWalkOf coden codel).2.1) ((s_DrawWalkOf coden codel).2.2.1) ((s_DrawWalkOf coden codel).2.2.2)) = true then (if (codeB coden codel) = true then (if (ok_i_SpreadsOfOrder ((k3_19 coden codel).1) ((k3_19 coden codel).2)) = true then (if (ok_s_SpreadsOfOrder ((k3_19 coden codel).1) ((k3_19 coden codel).2)) = true then (if (((k3_17 coden codel).2) == ((k3_18 coden codel).2)) = true then (if (lenB (((k3_17 coden codel).1).1) 1 (((k3_17 coden codel).1).2) && lenB (((k3_18 coden codel).1).1) 1 (((k3_18 coden codel).1).2)) = true then (if (k3_22 coden codel) = true then (if (((k3_20 coden codel).2) == ((k3_21 coden codel).2)) = true then (if (lenB (((k3_20 coden codel).1).1) 1 (((k3_20 coden codel).1).2) && lenB (((k3_21 coden codel).1).1) 1 (((k3_21 coden codel).1).2)) = true then some (k3_23 coden codel) else none) else some false) else some false) else none) else some false) else none) else none) else none) else none) else none) else none))))) else none) else none) else none))
def L_l_FnSpreadOrders_0 (fu : Nat) (coden : Nat) (codel : List Int) : Nat → Int → Option (Bool)
  | 0, _ => none
  | f + 1, i => B_l_FnSpreadOrders_0 coden codel (L_l_FnSpreadOrders_0 fu coden codel f) i
theorem loop_l_FnSpreadOrders_0 (fu : Nat) (coden : Nat) (codel : List Int) : ∀ (f : Nat) (i : Int), X_l_FnSpreadOrders_0 Try.prog fu coden codel f i = L_l_FnSpreadOrders_0 fu coden codel f i := by
  intro f
  induction f with
  | zero => intros; rfl
  | succ f ih =>
    intro i
    have h1 : X_l_FnSpreadOrders_0 Try.prog fu coden codel (f + 1) i = B_l_FnSpreadOrders_0 coden codel (X_l_FnSpreadOrders_0 Try.prog fu coden codel f) i := by kernel_rfl
    have h2 : X_l_FnSpreadOrders_0 Try.prog fu coden codel f = L_l_FnSpreadOrders_0 fu coden codel f := by funext i; exact ih i
    rw [h1, h2]
    rfl
def X_l_FnSpreadOrders_1 (P : Program) (fu : Nat) (coden : Nat) (codel : List Int) (f : Nat) (i : Int) : Option (Bool) := loopK (exec P S_l_FnSpreadOrders 357 (fuelOf fu []) (Code.sub [1, 1, 1, 1, 1, 1, 1, 1, 1, 1, 1, 1, 1, 0, 1, 1, 1, 1, 0, 0] (bodyF P 3))) f (T_l_FnSpreadOrders_1 coden codel i) (kBlock 0 (kSeq (fun zs9 => exec P S_l_FnSpreadOrders 357 (fuelOf fu []) (Code.sub [1, 1, 1, 1, 1, 1, 1, 1, 1, 1, 1, 1, 1, 1] (bodyF P 3)) zs9 (finT P 3 dec_b)) (finT P 3 dec_b)))
def B_l_FnSpreadOrders_1 (coden : Nat) (codel : List Int) (rec1 : Int → Option (Bool)) (i : Int) : Option (Bool) :=
  B_l_FnSpreadOrders_0 coden codel rec1 i
def L_l_FnSpreadOrders_1 (fu : Nat) (coden : Nat) (codel : List Int) : Nat → Int → Option (Bool)
  | 0, _ => none
  | f + 1, i => B_l_FnSpreadOrders_1 coden codel (L_l_FnSpreadOrders_1 fu coden codel f) i
theorem loop_l_FnSpreadOrders_1 (fu : Nat) (coden : Nat) (codel : List Int) : ∀ (f : Nat) (i : Int), X_l_FnSpreadOrders_1 Try.prog fu coden codel f i = L_l_FnSpreadOrders_1 fu coden codel f i := by
  intro f
  induction f with
  | zero => intros; rfl
  | succ f ih =>
    intro i
    have h1 : X_l_FnSpreadOrders_1 Try.prog fu coden codel (f + 1) i = B_l_FnSpreadOrders_1 coden codel (X_l_FnSpreadOrders_1 Try.prog fu coden codel f) i := by kernel_rfl
    have h2 : X_l_FnSpreadOrders_1 Try.prog fu coden codel f = L_l_FnSpreadOrders_1 fu coden codel f := by funext i; exact ih i
    rw [h1, h2]
    rfl
theorem same_l_FnSpreadOrders_1 : L_l_FnSpreadOrders_1 = L_l_FnSpreadOrders_0 := by kernel_rfl
def G_l_FnSpreadOrders (coden : Nat) (codel : List Int) (lo0 : Int → Option (Bool)) (lo1 : Int → Option (Bool)) : Option (Bool) :=
  (if (l_big coden codel) = true then some true else (if (codeB coden codel) = true then (if (ok_i_OrderOfSpread ((k3_0 coden codel).1) ((k3_0 coden codel).2)) = true then (if (ok_s_OrderOfSpread ((k3_0 coden codel).1) ((k3_0 coden codel).2)) = true then (if (ok_i_PeriodOfSpread ((k3_0 coden codel).1) ((k3_0 coden codel).2)) = true then (if (ok_s_PeriodOfSpread ((k3_0 coden codel).1) ((k3_0 coden codel).2)) = true then (if (((k3_1 coden codel).2) != ((k3_2 coden codel).2)) = true then some false else (if (((k3_1 coden codel).1) != ((k3_2 coden codel).1)) = true then some false else (if (((k3_3 coden codel).2) != ((k3_4 coden codel).2)) = true then some false else (if (((k3_3 coden codel).1) != ((k3_4 coden codel).1)) = true then some false else (if (((k3_1 coden codel).2) == 0) = true then (if (ok_i_SpreadsOfOrder ((k3_0 coden codel).1) ((k3_1 coden codel).1)) = true then (if (ok_i_SpreadPolynomial ((k3_0 coden codel).1) (wI (((k3_3 coden codel).1) + 1)) ((k3_0 coden codel).2)) = true then (if (((k3_5 coden codel).2) != 0) = true then some false else (if (((k3_6 coden codel).2) != 0) = true then some false else (if (decide (((k3_1 coden codel).1) < 1)) = true then some false else (if (!(((k3_1 coden codel).1) == 0)) = true then (if ((((k3_3 coden codel).1).tmod ((k3_1 coden codel).1)) != 0) = true then some false else (if (lenB (((k3_5 coden codel).1).1) 1 (((k3_5 coden codel).1).2)) = true then (if (!(k3_7 coden codel)) = true then some false else (if (((k3_6 coden codel).1) != ((k3_0 coden codel).2)) = true then some false else (if (codeB coden codel) = true then (if (((k3_8 coden codel).2.2) != ((k3_9 coden codel).2.2)) = true then some false else (if (lenB (((k3_8 coden codel).1).1) 1 (((k3_8 coden codel).1).2) && lenB (((k3_9 coden codel).1).1) 1 (((k3_9 coden codel).1).2)) = true then (if (!(k3_10 coden codel)) = true then some false else (if (lenB (((k3_8 coden codel).2.1).1) 1 (((k3_8 coden codel).2.1).2) && lenB (((k3_9 coden codel).2.1).1) 1 (((k3_9 coden codel).2.1).2)) = true then (if (!(k3_11 coden codel)) = true then some false else (if (((k3_8 coden codel).2.2) == 0) = true then (if (lenB (((k3_8 coden codel).2.1).1) 1 (((k3_8 coden codel).2.1).2)) = true then (if ((k3_12 coden codel) != (s_DrawOrdersOf coden codel)) = true then some false else (if (((((k3_8 coden codel).1).1 : Nat) : Int) != ((((k3_8 coden codel).2.1).1 : Nat) : Int)) = true then some false else (if (decide (0 ≤ 0) && decide (0 < ((((k3_8 coden codel).1).1 : Nat) : Int))) = true then (if (Nat.ble (1) ((((k3_8 coden codel).1).2).length)) = true then (if (((((k3_8 coden codel).1).2).getD 0 0) != 1) = true then some false else (if (decide (0 ≤ 0) && decide (0 < ((((k3_8 coden codel).2.1).1 : Nat) : Int))) = true then (if (Nat.ble (1) ((((k3_8 coden codel).2.1).2).length)) = true then (if (((((k3_8 coden codel).2.1).2).getD 0 0) != 1) = true then some false else lo0 0) else none) else none)) else none) else none))) else none) else (if (codeB coden codel) = true then (if (ok_i_WalkRound ((s_DrawWalkRound coden codel).1) ((s_DrawWalkRound coden codel).2.1) ((s_DrawWalkRound coden codel).2.2)) = true then (if (ok_s_WalkRound ((s_DrawWalkRound coden codel).1) ((s_DrawWalkRound coden codel).2.1) ((s_DrawWalkRound coden codel).2.2)) = true then (if (((k3_14 coden codel).2.2) != ((k3_15 coden codel).2.2)) = true then some false else (if (((k3_14 coden codel).1) != ((k3_15 coden codel).1)) = true then some false else (if (((k3_14 coden codel).2.1) != ((k3_15 coden codel).2.1)) = true then some false else (if (((k3_14 coden codel).2.2) == 0) = true then (if (ok_i_WalkOf ((s_DrawWalkRound coden codel).1) ((s_DrawWalkRound coden codel).2.1) ((s_DrawWalkRound coden codel).2.2) (wI (((k3_14 coden codel).1) + ((k3_14 coden codel).2.1)))) = true then (if (((k3_16 coden codel).2) != 0) = true then some false else (if (decide (((k3_14 coden codel).2.1) < 1)) = true then some false else (if (((((k3_16 coden codel).1).1 : Nat) : Int) != (wI ((wI (((k3_14 coden codel).1) + ((k3_14 coden codel).2.1))) + 1))) = true then some false else (if (decide (0 ≤ (k3_14 coden codel).1) && decide ((k3_14 coden codel).1 < ((((k3_16 coden codel).1).1 : Nat) : Int))) = true then (if (Nat.ble ((((k3_14 coden codel).1).toNat) * 1 + 1) ((((k3_16 coden codel).1).2).length)) = true then (if (decide (0 ≤ wI (((k3_14 coden codel).1) + ((k3_14 coden codel).2.1))) && decide (wI (((k3_14 coden codel).1) + ((k3_14 coden codel).2.1)) < ((((k3_16 coden codel).1).1 : Nat) : Int))) = true then (if (Nat.ble (((wI (((k3_14 coden codel).1) + ((k3_14 coden codel).2.1))).toNat) * 1 + 1) ((((k3_16 coden codel).1).2).length)) = true then (if (((((k3_16 coden codel).1).2).getD ((((k3_14 coden codel).1).toNat) * 1) 0) != ((((k3_16 coden codel).1).2).getD (((wI (((k3_14 coden codel).1) + ((k3_14 coden codel).2.1))).toNat) * 1) 0)) = true then some false else (if (codeB coden codel) = true then (if (ok_i_WalkOf ((s_DrawWalkOf coden codel).1) ((s_DrawWalkOf coden codel).2.1) ((s_DrawWalkOf coden codel).2.2.1) ((s_DrawWalkOf coden codel).2.2.2)) = true then (if (ok_s_WalkOf ((s_DrawWalkOf coden codel).1) ((s_DrawWalkOf coden codel).2.1) ((s_DrawWalkOf coden codel).2.2.1) ((s_DrawWalkOf coden codel).2.2.2)) = true then (if (codeB coden codel) = true then (if (ok_i_SpreadsOfOrder ((k3_19 coden codel).1) ((k3_19 coden codel).2)) = true then (if (ok_s_SpreadsOfOrder ((k3_19 coden codel).1) ((k3_19 coden codel).2)) = true then (if (((k3_17 coden codel).2) == ((k3_18 coden codel).2)) = true then (if (lenB (((k3_17 coden codel).1).1) 1 (((k3_17 coden codel).1).2) && lenB (((k3_18 coden codel).1).1) 1 (((k3_18 coden codel).1).2)) = true then (if (k3_22 coden codel) = true then (if (((k3_20 coden codel).2) == ((k3_21 coden codel).2)) = true then (if (lenB (((k3_20 coden codel).1).1) 1 (((k3_20 coden codel).1).2) && lenB (((k3_21 coden codel).1).1) 1 (((k3_21 coden codel).1).2)) = true then some (k3_23 coden codel) else none) else some false) else some false) else none) else some false) else none) else none) else none) else none) else none) else none)) else none) else none) else none) else none)))) else none) else (if (codeB coden codel) = true then (if (ok_i_WalkOf ((s_DrawWalkOf coden codel).1) ((s_DrawWalkOf coden codel).2.1) ((s_DrawWalkOf coden codel).2.2.1) ((s_DrawWalkOf coden codel).2.2.2)) = true then (if (ok_s_WalkOf ((s_DrawWalkOf coden codel).1) ((s_DrawWalkOf coden codel).2.1) ((s_DrawWalkOf coden codel).2.2.1) ((s_DrawWalkOf coden codel).2.2.2)) = true then (if (codeB coden codel) = true then (if (ok_i_SpreadsOfOrder ((k3_19 coden codel).1) ((k3_19 coden codel).2)) = true then (if (ok_s_SpreadsOfOrder ((k3_19 coden codel).1) ((k3_19 coden codel).2)) = true then (if (((k3_17 coden codel).2) == ((k3_18 coden codel).2)) = true then (if (lenB (((k3_17 coden codel).1).1) 1 (((k3_17 coden codel).1).2) && lenB (((k3_18 coden codel).1).1) 1 (((k3_18 coden codel).1).2)) = true then (if (k3_22 coden codel) = true then (if (((k3_20 coden codel).2) == ((k3_21 coden codel).2)) = true then (if (lenB (((k3_20 coden codel).1).1) 1 (((k3_20 coden codel).1).2) && lenB (((k3_21 coden codel).1).1) 1 (((k3_21 coden codel).1).2)) = true then some (k3_23 coden codel) else none) else some false) else some false) else none) else some false) else none) else none) else none) else none) else none) else none))))) else none) else none) else none))) else none)) else none)) else none))) else none)) else none)))) else none) else none) else (if (codeB coden codel) = true then (if (((k3_8 coden codel).2.2) != ((k3_9 coden codel).2.2)) = true then some false else (if (lenB (((k3_8 coden codel).1).1) 1 (((k3_8 coden codel).1).2) && lenB (((k3_9 coden codel).1).1) 1 (((k3_9 coden codel).1).2)) = true then (if (!(k3_10 coden codel)) = true then some false else (if (lenB (((k3_8 coden codel).2.1).1) 1 (((k3_8 coden codel).2.1).2) && lenB (((k3_9 coden codel).2.1).1) 1 (((k3_9 coden codel).2.1).2)) = true then (if (!(k3_11 coden codel)) = true then some false else (if (((k3_8 coden codel).2.2) == 0) = true then (if (lenB (((k3_8 coden codel).2.1).1) 1 (((k3_8 coden codel).2.1).2)) = true then (if ((k3_12 coden codel) != (s_DrawOrdersOf coden codel)) = true then some false else (if (((((k3_8 coden codel).1).1 : Nat) : Int) != ((((k3_8 coden codel).2.1).1 : Nat) : Int)) = true then some false else (if (decide (0 ≤ 0) && decide (0 < ((((k3_8 coden codel).1).1 : Nat) : Int))) = true then (if (Nat.ble (1) ((((k3_8 coden codel).1).2).length)) = true then (if (((((k3_8 coden codel).1).2).getD 0 0) != 1) = true then some false else (if (decide (0 ≤ 0) && decide (0 < ((((k3_8 coden codel).2.1).1 : Nat) : Int))) = true then (if (Nat.ble (1) ((((k3_8 coden codel).2.1).2).length)) = true then (if (((((k3_8 coden codel).2.1).2).getD 0 0) != 1) = true then some false else lo1 0) else none) else none)) else none) else none))) else none) else (if (codeB coden codel) = true then (if (ok_i_WalkRound ((s_DrawWalkRound coden codel).1) ((s_DrawWalkRound coden codel).2.1) ((s_DrawWalkRound coden codel).2.2)) = true then (if (ok_s_WalkRound ((s_DrawWalkRound coden codel).1) ((s_DrawWalkRound coden codel).2.1) ((s_DrawWalkRound coden codel).2.2)) = true then (if (((k3_14 coden codel).2.2) != ((k3_15 coden codel).2.2)) = true then some false else (if (((k3_14 coden codel).1) != ((k3_15 coden codel).1)) = true then some false else (if (((k3_14 coden codel).2.1) != ((k3_15 coden codel).2.1)) = true then some false else (if (((k3_14 coden codel).2.2) == 0) = true then (if (ok_i_WalkOf ((s_DrawWalkRound coden codel).1) ((s_DrawWalkRound coden codel).2.1) ((s_DrawWalkRound coden codel).2.2) (wI (((k3_14 coden codel).1) + ((k3_14 coden codel).2.1)))) = true then (if (((k3_16 coden codel).2) != 0) = true then some false else (if (decide (((k3_14 coden codel).2.1) < 1)) = true then some false else (if (((((k3_16 coden codel).1).1 : Nat) : Int) != (wI ((wI (((k3_14 coden codel).1) + ((k3_14 coden codel).2.1))) + 1))) = true then some false else (if (decide (0 ≤ (k3_14 coden codel).1) && decide ((k3_14 coden codel).1 < ((((k3_16 coden codel).1).1 : Nat) : Int))) = true then (if (Nat.ble ((((k3_14 coden codel).1).toNat) * 1 + 1) ((((k3_16 coden codel).1).2).length)) = true then (if (decide (0 ≤ wI (((k3_14 coden codel).1) + ((k3_14 coden codel).2.1))) && decide (wI (((k3_14 coden codel).1) + ((k3_14 coden codel).2.1)) < ((((k3_16 coden codel).1).1 : Nat) : Int))) = true then (if (Nat.ble (((wI (((k3_14 coden codel).1) + ((k3_14 coden codel).2.1))).toNat) * 1 + 1) ((((k3_16 coden codel).1).2).length)) = true then (if (((((k3_16 coden codel).1).2).getD ((((k3_14 coden codel).1).toNat) * 1) 0) != ((((k3_16 coden codel).1).2).getD (((wI (((k3_14 coden codel).1) + ((k3_14 coden codel).2.1))).toNat) * 1) 0)) = true then some false else (if (codeB coden codel) = true then (if (ok_i_WalkOf ((s_DrawWalkOf coden codel).1) ((s_DrawWalkOf coden codel).2.1) ((s_DrawWalkOf coden codel).2.2.1) ((s_DrawWalkOf coden codel).2.2.2)) = true then (if (ok_s_WalkOf ((s_DrawWalkOf coden codel).1) ((s_DrawWalkOf coden codel).2.1) ((s_DrawWalkOf coden codel).2.2.1) ((s_DrawWalkOf coden codel).2.2.2)) = true then (if (codeB coden codel) = true then (if (ok_i_SpreadsOfOrder ((k3_19 coden codel).1) ((k3_19 coden codel).2)) = true then (if (ok_s_SpreadsOfOrder ((k3_19 coden codel).1) ((k3_19 coden codel).2)) = true then (if (((k3_17 coden codel).2) == ((k3_18 coden codel).2)) = true then (if (lenB (((k3_17 coden codel).1).1) 1 (((k3_17 coden codel).1).2) && lenB (((k3_18 coden codel).1).1) 1 (((k3_18 coden codel).1).2)) = true then (if (k3_22 coden codel) = true then (if (((k3_20 coden codel).2) == ((k3_21 coden codel).2)) = true then (if (lenB (((k3_20 coden codel).1).1) 1 (((k3_20 coden codel).1).2) && lenB (((k3_21 coden codel).1).1) 1 (((k3_21 coden codel).1).2)) = true then some (k3_23 coden codel) else none) else some false) else some false) else none) else some false) else none) else none) else none) else none) else none) else none)) else none) else none) else none) else none)))) else none) else (if (codeB coden codel) = true then (if (ok_i_WalkOf ((s_DrawWalkOf coden codel).1) ((s_DrawWalkOf coden codel).2.1) ((s_DrawWalkOf coden codel).2.2.1) ((s_DrawWalkOf coden codel).2.2.2)) = true then (if (ok_s_WalkOf ((s_DrawWalkOf coden codel).1) ((s_DrawWalkOf coden codel).2.1) ((s_DrawWalkOf coden codel).2.2.1) ((s_DrawWalkOf coden codel).2.2.2)) = true then (if (codeB coden codel) = true then (if (ok_i_SpreadsOfOrder ((k3_19 coden codel).1) ((k3_19 coden codel).2)) = true then (if (ok_s_SpreadsOfOrder ((k3_19 coden codel).1) ((k3_19 coden codel).2)) = true then (if (((k3_17 coden codel).2) == ((k3_18 coden codel).2)) = true then (if (lenB (((k3_17 coden codel).1).1) 1 (((k3_17 coden codel).1).2) && lenB (((k3_18 coden codel).1).1) 1 (((k3_18 coden codel).1).2)) = true then (if (k3_22 coden codel) = true then (if (((k3_20 coden codel).2) == ((k3_21 coden codel).2)) = true then (if (lenB (((k3_20 coden codel).1).1) 1 (((k3_20 coden codel).1).2) && lenB (((k3_21 coden codel).1).1) 1 (((k3_21 coden codel).1).2)) = true then some (k3_23 coden codel) else none) else some false) else some false) else none) else some false) else none) else none) else none) else none) else none) else none))))) else none) else none) else none))) else none)) else none)) else none)))))) else none) else none) else none) else none) else none))
def Fo_l_FnSpreadOrders (fu : Nat) (coden : Nat) (codel : List Int) : Option (Bool) := G_l_FnSpreadOrders coden codel (L_l_FnSpreadOrders_0 fu coden codel fu) (L_l_FnSpreadOrders_1 fu coden codel fu)
theorem eqg_l_FnSpreadOrders (fu : Nat) (coden : Nat) (codel : List Int) : execT Try.prog S_l_FnSpreadOrders 3 357 (fuelOf fu []) dec_b [.s coden (.byts codel)] = G_l_FnSpreadOrders coden codel (L_l_FnSpreadOrders_0 fu coden codel fu) (L_l_FnSpreadOrders_1 fu coden codel fu) := by
  have h1 : execT Try.prog S_l_FnSpreadOrders 3 357 (fuelOf fu []) dec_b [.s coden (.byts codel)] = G_l_FnSpreadOrders coden codel (X_l_FnSpreadOrders_0 Try.prog fu coden codel fu) (X_l_FnSpreadOrders_1 Try.prog fu coden codel fu) := by kernel_rfl
  have c0 : X_l_FnSpreadOrders_0 Try.prog fu coden codel fu = L_l_FnSpreadOrders_0 fu coden codel fu := by funext i; exact loop_l_FnSpreadOrders_0 fu coden codel fu i
  have c1 : X_l_FnSpreadOrders_1 Try.prog fu coden codel fu = L_l_FnSpreadOrders_1 fu coden codel fu := by funext i; exact loop_l_FnSpreadOrders_1 fu coden codel fu i
  rw [h1, c0, c1]
theorem eq_l_FnSpreadOrders (fu : Nat) (coden : Nat) (codel : List Int) : execT Try.prog S_l_FnSpreadOrders 3 357 (fuelOf fu []) dec_b [.s coden (.byts codel)] = Fo_l_FnSpreadOrders fu coden codel := eqg_l_FnSpreadOrders fu coden codel
theorem ords_lens (p : Int) : lenB (i_OrdersOf p).1.1 1 (i_OrdersOf p).1.2 = true ∧ lenB (i_OrdersOf p).2.1.1 1 (i_OrdersOf p).2.1.2 = true := by
  rw [iords_is]
  unfold ordsR
  by_cases hf : i_IsField p = true
  · have := OL_len hf
    rw [if_pos hf]
    exact ⟨lenB_of (by simp) (by dsimp only; omega), lenB_of (by simp) (by dsimp only; omega)⟩
  · rw [if_neg hf]
    exact ⟨rfl, rfl⟩
theorem ords_of {p : Int} (h : ((i_OrdersOf p).2.2 == 0) = true) : i_IsField p = true ∧ i_OrdersOf p = (((OL p).length, (OL p).map fun t : Nat => (t : Int)), ((OL p).length, (OL p).map (cn p)), 0) := by
  rw [iords_is] at h ⊢
  unfold ordsR at h ⊢
  by_cases hf : i_IsField p = true
  · rw [if_pos hf]
    exact ⟨hf, rfl⟩
  · rw [if_neg hf] at h
    exact absurd h (by decide)
theorem second_ok {p : Int} (h : ((i_OrdersOf p).2.2 == 0) = true) : l_sum (i_OrdersOf p).2.1.1 (i_OrdersOf p).2.1.2 = p ∧ (((i_OrdersOf p).1.1 : Nat) : Int) = (((i_OrdersOf p).2.1.1 : Nat) : Int) ∧ 0 < (i_OrdersOf p).1.1 ∧ (i_OrdersOf p).1.2.length = (i_OrdersOf p).1.1 ∧ (i_OrdersOf p).2.1.2.length = (i_OrdersOf p).1.1 ∧ (i_OrdersOf p).2.1.1 = (i_OrdersOf p).1.1 ∧ (i_OrdersOf p).1.2.getD 0 0 = 1 ∧ (i_OrdersOf p).2.1.2.getD 0 0 = 1 ∧ (i_OrdersOf p).1.1 ≤ 32 ∧
    ∀ k, k < (i_OrdersOf p).1.1 → (i_SpreadsOfOrder p ((i_OrdersOf p).1.2.getD (k * 1) 0)).2 = 0 ∧ (((i_SpreadsOfOrder p ((i_OrdersOf p).1.2.getD (k * 1) 0)).1.1 : Nat) : Int) = (i_OrdersOf p).2.1.2.getD (k * 1) 0 := by
  obtain ⟨hf, e⟩ := ords_of h
  have hp := i_IsField_ok hf
  unfold Pr at hp
  have hs := OL_sum hf
  have hl := OL_len hf
  obtain ⟨l, h1, h2⟩ := OL_head hf
  rw [e]
  dsimp only
  refine ⟨?_, rfl, ?_, by simp, by simp, rfl, ?_, ?_, hl, fun k hk => ?_⟩
  · rw [sum_eq (fun x hx => ?_) (by omega), hs]
    obtain ⟨t, _, rfl⟩ := List.mem_map.1 hx
    exact cn_nn p t
  · rw [h1]
    simp
  · rw [h1]
    rfl
  · rw [h1]
    exact h2
  · have e1 : ((OL p).map fun t : Nat => (t : Int)).getD (k * 1) 0 = (((OL p)[k] : Nat) : Int) := by
      rw [Nat.mul_one, List.getD_eq_getElem?_getD, List.getElem?_map, List.getElem?_eq_getElem hk]
      rfl
    have e2 : ((OL p).map (cn p)).getD (k * 1) 0 = cn p ((OL p)[k]) := by
      rw [Nat.mul_one, List.getD_eq_getElem?_getD, List.getElem?_map, List.getElem?_eq_getElem hk]
      rfl
    have hm := OL_mem (List.getElem_mem hk)
    rw [e1, e2, code_so hf (by omega)]
    exact ⟨rfl, ofOrd_len p _⟩
theorem FnSpreadOrders_tot (n : Nat) (l : List Int) (hp : bytB n l = true) : Fo_l_FnSpreadOrders 1000000 n l = some true := by
  unfold Fo_l_FnSpreadOrders G_l_FnSpreadOrders
  refine br_step (fun _ => rfl) (fun hb => ?_)
  have hc := code_big hp hb
  have S1 := ok_i_OrderOfSpread_of (iord_eq (k3_0 n l).1 (k3_0 n l).2)
  have S2 := ok_s_OrderOfSpread_of (sord_eq (k3_0 n l).1 (k3_0 n l).2)
  have S3 := ok_i_PeriodOfSpread_of (iper_eq (k3_0 n l).1 (k3_0 n l).2)
  have S4 := ok_s_PeriodOfSpread_of (sper_eq (k3_0 n l).1 (k3_0 n l).2)
  have E1 : k3_1 n l = k3_2 n l := (iord_is _ _).trans (sord_is _ _).symm
  have E3 : k3_3 n l = k3_4 n l := (iper_is _ _).trans (sper_is _ _).symm
  have E1b := congrArg Prod.snd E1
  have E1a := congrArg Prod.fst E1
  have E3b := congrArg Prod.snd E3
  have E3a := congrArg Prod.fst E3
  have S5 := ok_i_SpreadsOfOrder_of (isoo (k3_0 n l).1 (k3_1 n l).1)
  have F5 : lenB (k3_5 n l).1.1 1 (k3_5 n l).1.2 = true := so_len _ _
  have A : ((k3_1 n l).2 == 0) = true → ok_i_SpreadPolynomial (k3_0 n l).1 (wI ((k3_3 n l).1 + 1)) (k3_0 n l).2 = true ∧ (k3_5 n l).2 = 0 ∧ (k3_6 n l).2 = 0 ∧ decide ((k3_1 n l).1 < 1) = false ∧ (!((k3_1 n l).1 == 0)) = true ∧ ((k3_3 n l).1).tmod (k3_1 n l).1 = 0 ∧ k3_7 n l = true ∧ (k3_6 n l).1 = (k3_0 n l).2 := fun h => first_ok h
  have E8 : k3_8 n l = k3_9 n l := (iords_is _).trans (sords_is _).symm
  have E8c : (k3_8 n l).2.2 = (k3_9 n l).2.2 := congrArg (fun x => x.2.2) E8
  obtain ⟨L8, L8n⟩ : lenB (k3_8 n l).1.1 1 (k3_8 n l).1.2 = true ∧ lenB (k3_8 n l).2.1.1 1 (k3_8 n l).2.1.2 = true := ords_lens _
  have L8a : (lenB (k3_8 n l).1.1 1 (k3_8 n l).1.2 && lenB (k3_9 n l).1.1 1 (k3_9 n l).1.2) = true := by rw [← E8]; exact and_two L8 L8
  have L8b : (lenB (k3_8 n l).2.1.1 1 (k3_8 n l).2.1.2 && lenB (k3_9 n l).2.1.1 1 (k3_9 n l).2.1.2) = true := by rw [← E8]; exact and_two L8n L8n
  have H10 : k3_10 n l = true := by
    show l_likeInts (k3_8 n l).1.1 (k3_8 n l).1.2 (k3_9 n l).1.1 (k3_9 n l).1.2 = true
    rw [← E8]
    exact like_self _ _
  have H11 : k3_11 n l = true := by
    show l_likeInts (k3_8 n l).2.1.1 (k3_8 n l).2.1.2 (k3_9 n l).2.1.1 (k3_9 n l).2.1.2 = true
    rw [← E8]
    exact like_self _ _
  have B : ((k3_8 n l).2.2 == 0) = true → k3_12 n l = s_DrawOrdersOf n l ∧ (((k3_8 n l).1.1 : Nat) : Int) = (((k3_8 n l).2.1.1 : Nat) : Int) ∧ 0 < (k3_8 n l).1.1 ∧ (k3_8 n l).1.2.length = (k3_8 n l).1.1 ∧ (k3_8 n l).2.1.2.length = (k3_8 n l).1.1 ∧ (k3_8 n l).2.1.1 = (k3_8 n l).1.1 ∧ (k3_8 n l).1.2.getD 0 0 = 1 ∧ (k3_8 n l).2.1.2.getD 0 0 = 1 ∧ (k3_8 n l).1.1 ≤ 32 ∧
    ∀ k, k < (k3_8 n l).1.1 → (i_SpreadsOfOrder (s_DrawOrdersOf n l) ((k3_8 n l).1.2.getD (k * 1) 0)).2 = 0 ∧ (((i_SpreadsOfOrder (s_DrawOrdersOf n l) ((k3_8 n l).1.2.getD (k * 1) 0)).1.1 : Nat) : Int) = (k3_8 n l).2.1.2.getD (k * 1) 0 := fun h => second_ok h
  obtain ⟨S14, S15, E14⟩ := round_is (s_DrawWalkRound n l).1 (s_DrawWalkRound n l).2.1 (s_DrawWalkRound n l).2.2
  have E14c : (k3_14 n l).2.2 = (k3_15 n l).2.2 := congrArg (fun x => x.2.2) E14
  have E14a : (k3_14 n l).1 = (k3_15 n l).1 := congrArg (fun x => x.1) E14
  have E14b : (k3_14 n l).2.1 = (k3_15 n l).2.1 := congrArg (fun x => x.2.1) E14
  have S16 := ok_i_WalkOf_of (iwalkOf_eq (s_DrawWalkRound n l).1 (s_DrawWalkRound n l).2.1 (s_DrawWalkRound n l).2.2 (wI ((k3_14 n l).1 + (k3_14 n l).2.1)))
  have C : ((k3_14 n l).2.2 == 0) = true → _ := fun h => third_ok h
  have S17 := ok_i_WalkOf_of (iwalkOf_eq (s_DrawWalkOf n l).1 (s_DrawWalkOf n l).2.1 (s_DrawWalkOf n l).2.2.1 (s_DrawWalkOf n l).2.2.2)
  have S18 := ok_s_WalkOf_of (swalkOf_eq (s_DrawWalkOf n l).1 (s_DrawWalkOf n l).2.1 (s_DrawWalkOf n l).2.2.1 (s_DrawWalkOf n l).2.2.2)
  have E17 : k3_17 n l = k3_18 n l := (iwalkOf_is _ _ _ _).trans (swalkOf_is _ _ _ _).symm
  have L17 : lenB (k3_17 n l).1.1 1 (k3_17 n l).1.2 = true := by
    have := walkR_len (s_DrawWalkOf n l).1 (s_DrawWalkOf n l).2.1 (s_DrawWalkOf n l).2.2.1 (s_DrawWalkOf n l).2.2.2
    rw [← iwalkOf_is] at this
    exact this
  have E17b : ((k3_17 n l).2 == (k3_18 n l).2) = true := by rw [E17]; exact beq_self_eq_true _
  have L17b : (lenB (k3_17 n l).1.1 1 (k3_17 n l).1.2 && lenB (k3_18 n l).1.1 1 (k3_18 n l).1.2) = true := by rw [← E17]; exact and_two L17 L17
  have H22 : k3_22 n l = true := by
    show l_likeInts (k3_17 n l).1.1 (k3_17 n l).1.2 (k3_18 n l).1.1 (k3_18 n l).1.2 = true
    rw [← E17]
    exact like_self _ _
  have S20 := ok_i_SpreadsOfOrder_of (isoo (k3_19 n l).1 (k3_19 n l).2)
  have S21 := ok_s_SpreadsOfOrder_of (soo_eq (k3_19 n l).1 (k3_19 n l).2)
  have E20 : k3_20 n l = k3_21 n l := (soo_is _ _).symm
  have L20 : lenB (k3_20 n l).1.1 1 (k3_20 n l).1.2 = true := so_len _ _
  have E20b : ((k3_20 n l).2 == (k3_21 n l).2) = true := by rw [E20]; exact beq_self_eq_true _
  have L20b : (lenB (k3_20 n l).1.1 1 (k3_20 n l).1.2 && lenB (k3_21 n l).1.1 1 (k3_21 n l).1.2) = true := by rw [← E20]; exact and_two L20 L20
  have H23 : k3_23 n l = true := by
    show l_likeInts (k3_20 n l).1.1 (k3_20 n l).1.2 (k3_21 n l).1.1 (k3_21 n l).1.2 = true
    rw [← E20]
    exact like_self _ _
  have lo0 : ∀ (L : Nat → Int → Option Bool) (F : Nat), ((k3_8 n l).2.2 == 0) = true → (∀ f i, L (f + 1) i = B_l_FnSpreadOrders_0 n l (L f) i) → 32 < F → L F 0 = some true := by
    intro L F h8 hL hF
    obtain ⟨b1, b2, b3, b4, b5, b6, b7, b8, b9, b10⟩ := B h8
    refine walk_loop (L := L) (n := (k3_8 n l).1.1) (by omega) (fun f k hk hr => ?_) (fun f => ?_)
    · rw [hL]
      unfold B_l_FnSpreadOrders_0
      obtain ⟨m1, m2⟩ := b10 k hk
      refine ck_step (cnd hk) ?_
      refine ck_step (cnd2 hk) ?_
      refine ck_step (by rw [Int.toNat_natCast]; exact row1_ok b4 hk) ?_
      refine ck_step (ok_i_SpreadsOfOrder_of (isoo _ _)) ?_
      refine ne_step m1 ?_
      refine ck_step (idx_ok (by rw [← b2]; omega)) ?_
      refine ck_step (by rw [Int.toNat_natCast]; exact row1_ok b5 hk) ?_
      refine ne_step m2 ?_
      rw [wrap_add1 hk (by omega)]
      exact hr
    · rw [hL]
      unfold B_l_FnSpreadOrders_0
      refine no_step (cndE _) ?_
      repeat' (first
        | with_reducible exact end_step H23
        | with_reducible refine ck_step hc ?_
        | with_reducible refine ck_step S14 ?_
        | with_reducible refine ck_step S15 ?_
        | with_reducible refine ne_step E14c ?_
        | with_reducible refine ne_step E14a ?_
        | with_reducible refine ne_step E14b ?_
        | with_reducible refine ck_step S16 ?_
        | with_reducible refine ne_step (C ‹((k3_14 n l).2.2 == 0) = true›).1 ?_
        | with_reducible refine fl_step (C ‹((k3_14 n l).2.2 == 0) = true›).2.1 ?_
        | with_reducible refine ne_step (C ‹((k3_14 n l).2.2 == 0) = true›).2.2.1 ?_
        | with_reducible refine ck_step (C ‹((k3_14 n l).2.2 == 0) = true›).2.2.2.1 ?_
        | with_reducible refine ck_step (C ‹((k3_14 n l).2.2 == 0) = true›).2.2.2.2.1 ?_
        | with_reducible refine ck_step (C ‹((k3_14 n l).2.2 == 0) = true›).2.2.2.2.2.1 ?_
        | with_reducible refine ck_step (C ‹((k3_14 n l).2.2 == 0) = true›).2.2.2.2.2.2.1 ?_
        | with_reducible refine ne_step (C ‹((k3_14 n l).2.2 == 0) = true›).2.2.2.2.2.2.2 ?_
        | with_reducible refine ck_step S17 ?_
        | with_reducible refine ck_step S18 ?_
        | with_reducible refine ck_step S20 ?_
        | with_reducible refine ck_step S21 ?_
        | with_reducible refine ck_step E17b ?_
        | with_reducible refine ck_step L17b ?_
        | with_reducible refine ck_step H22 ?_
        | with_reducible refine ck_step E20b ?_
        | with_reducible refine ck_step L20b ?_
        | with_reducible refine br_step (fun _ => ?_) (fun _ => ?_))
  have go0 : ((k3_8 n l).2.2 == 0) = true → L_l_FnSpreadOrders_0 1000000 n l 1000000 0 = some true := fun h => lo0 _ _ h (fun f i => rfl) (by decide)
  have go1 : ((k3_8 n l).2.2 == 0) = true → L_l_FnSpreadOrders_1 1000000 n l 1000000 0 = some true := fun h => lo0 (fun f i => L_l_FnSpreadOrders_1 1000000 n l f i) _ h (fun f i => rfl) (by decide)
  have B1 := fun h : ((k3_8 n l).2.2 == 0) = true => (B h).1
  have B2 := fun h : ((k3_8 n l).2.2 == 0) = true => (B h).2.1
  have B3 : ((k3_8 n l).2.2 == 0) = true → (decide (0 ≤ 0) && decide (0 < (((k3_8 n l).1.1 : Nat) : Int))) = true := fun h => by
    have := (B h).2.2.1
    exact and_two rfl (decide_eq_true (by omega))
  have B4 : ((k3_8 n l).2.2 == 0) = true → Nat.ble 1 (k3_8 n l).1.2.length = true := fun h => ble_ok (by rw [(B h).2.2.2.1]; exact (B h).2.2.1)
  have B5 := fun h : ((k3_8 n l).2.2 == 0) = true => (B h).2.2.2.2.2.2.1
  have B6 : ((k3_8 n l).2.2 == 0) = true → (decide (0 ≤ 0) && decide (0 < (((k3_8 n l).2.1.1 : Nat) : Int))) = true := fun h => by
    rw [(B h).2.2.2.2.2.1]
    exact B3 h
  have B7 : ((k3_8 n l).2.2 == 0) = true → Nat.ble 1 (k3_8 n l).2.1.2.length = true := fun h => ble_ok (by rw [(B h).2.2.2.2.1]; exact (B h).2.2.1)
  have B8 := fun h : ((k3_8 n l).2.2 == 0) = true => (B h).2.2.2.2.2.2.2.1
  generalize L_l_FnSpreadOrders_0 1000000 n l 1000000 = Z0 at *
  generalize L_l_FnSpreadOrders_1 1000000 n l 1000000 = Z1 at *
  repeat' (first
    | with_reducible exact end_step H23
    | with_reducible exact go0 ‹((k3_8 n l).2.2 == 0) = true›
    | with_reducible exact go1 ‹((k3_8 n l).2.2 == 0) = true›
    | with_reducible refine ck_step hc ?_
    | with_reducible refine ck_step S1 ?_
    | with_reducible refine ck_step S2 ?_
    | with_reducible refine ck_step S3 ?_
    | with_reducible refine ck_step S4 ?_
    | with_reducible refine ne_step E1b ?_
    | with_reducible refine ne_step E1a ?_
    | with_reducible refine ne_step E3b ?_
    | with_reducible refine ne_step E3a ?_
    | with_reducible refine ck_step S5 ?_
    | with_reducible refine ck_step (A ‹((k3_1 n l).2 == 0) = true›).1 ?_
    | with_reducible refine ne_step (A ‹((k3_1 n l).2 == 0) = true›).2.1 ?_
    | with_reducible refine ne_step (A ‹((k3_1 n l).2 == 0) = true›).2.2.1 ?_
    | with_reducible refine fl_step (A ‹((k3_1 n l).2 == 0) = true›).2.2.2.1 ?_
    | with_reducible refine ck_step (A ‹((k3_1 n l).2 == 0) = true›).2.2.2.2.1 ?_
    | with_reducible refine ne_step (A ‹((k3_1 n l).2 == 0) = true›).2.2.2.2.2.1 ?_
    | with_reducible refine ck_step F5 ?_
    | with_reducible refine nt_step (A ‹((k3_1 n l).2 == 0) = true›).2.2.2.2.2.2.1 ?_
    | with_reducible refine ne_step (A ‹((k3_1 n l).2 == 0) = true›).2.2.2.2.2.2.2 ?_
    | with_reducible refine ne_step E8c ?_
    | with_reducible refine ck_step L8a ?_
    | with_reducible refine nt_step H10 ?_
    | with_reducible refine ck_step L8b ?_
    | with_reducible refine nt_step H11 ?_
    | with_reducible refine ck_step L8n ?_
    | with_reducible refine ne_step (B1 ‹((k3_8 n l).2.2 == 0) = true›) ?_
    | with_reducible refine ne_step (B2 ‹((k3_8 n l).2.2 == 0) = true›) ?_
    | with_reducible refine ck_step (B3 ‹((k3_8 n l).2.2 == 0) = true›) ?_
    | with_reducible refine ck_step (B4 ‹((k3_8 n l).2.2 == 0) = true›) ?_
    | with_reducible refine ne_step (B5 ‹((k3_8 n l).2.2 == 0) = true›) ?_
    | with_reducible refine ck_step (B6 ‹((k3_8 n l).2.2 == 0) = true›) ?_
    | with_reducible refine ck_step (B7 ‹((k3_8 n l).2.2 == 0) = true›) ?_
    | with_reducible refine ne_step (B8 ‹((k3_8 n l).2.2 == 0) = true›) ?_
    | with_reducible refine ck_step S14 ?_
    | with_reducible refine ck_step S15 ?_
    | with_reducible refine ne_step E14c ?_
    | with_reducible refine ne_step E14a ?_
    | with_reducible refine ne_step E14b ?_
    | with_reducible refine ck_step S16 ?_
    | with_reducible refine ne_step (C ‹((k3_14 n l).2.2 == 0) = true›).1 ?_
    | with_reducible refine fl_step (C ‹((k3_14 n l).2.2 == 0) = true›).2.1 ?_
    | with_reducible refine ne_step (C ‹((k3_14 n l).2.2 == 0) = true›).2.2.1 ?_
    | with_reducible refine ck_step (C ‹((k3_14 n l).2.2 == 0) = true›).2.2.2.1 ?_
    | with_reducible refine ck_step (C ‹((k3_14 n l).2.2 == 0) = true›).2.2.2.2.1 ?_
    | with_reducible refine ck_step (C ‹((k3_14 n l).2.2 == 0) = true›).2.2.2.2.2.1 ?_
    | with_reducible refine ck_step (C ‹((k3_14 n l).2.2 == 0) = true›).2.2.2.2.2.2.1 ?_
    | with_reducible refine ne_step (C ‹((k3_14 n l).2.2 == 0) = true›).2.2.2.2.2.2.2 ?_
    | with_reducible refine ck_step S17 ?_
    | with_reducible refine ck_step S18 ?_
    | with_reducible refine ck_step S20 ?_
    | with_reducible refine ck_step S21 ?_
    | with_reducible refine ck_step E17b ?_
    | with_reducible refine ck_step L17b ?_
    | with_reducible refine ck_step H22 ?_
    | with_reducible refine ck_step E20b ?_
    | with_reducible refine ck_step L20b ?_
    | with_reducible refine br_step (fun _ => ?_) (fun _ => ?_))

def l_FnSpreadOrders (coden : Nat) (codel : List Int) : Bool := true
theorem tot_l_FnSpreadOrders (coden : Nat) (codel : List Int) (hp : (bytB coden codel) = true) : Fo_l_FnSpreadOrders 1000000 coden codel = some (l_FnSpreadOrders coden codel) := by
  exact FnSpreadOrders_tot coden codel hp
def run_l_FnSpreadOrders : List PV → Option (Bool × List TR)
  | [.s coden (.byts codel)] => some (bytB coden codel, enc_b (l_FnSpreadOrders coden codel))
  | _ => none
theorem sound_l_FnSpreadOrders : Sound Try.prog 3 run_l_FnSpreadOrders := by
  refine sound_of de_b SO_l_FnSpreadOrders (by kernel_rfl) Try.func3 Try.ntmps3 rfl (by kernel_rfl) ?_
  intro W pvs avs rs hargs hrun
  unfold run_l_FnSpreadOrders at hrun
  split at hrun
  · simp only [Option.some.injEq, Prod.mk.injEq] at hrun
    obtain ⟨hp, rfl⟩ := hrun
    rename_i coden codel
    exact ⟨_, _, _, hargs, rfl, (eq_l_FnSpreadOrders _ coden codel).trans (tot_l_FnSpreadOrders coden codel hp)⟩
  · cases hrun


end

end Go.Proofs.Ytjdpbaefonekmaa
