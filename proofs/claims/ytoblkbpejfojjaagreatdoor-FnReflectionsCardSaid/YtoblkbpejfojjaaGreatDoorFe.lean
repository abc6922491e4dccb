import Derived.Test.YtoblkbpejfojjaaGreatDoorGb
import Derived.Test.YtoblkbpejfojjaaGreatDoorProg
set_option linter.unusedSimpArgs false
set_option linter.unusedVariables false
namespace Go.Proofs.YtoblkbpejfojjaaGreatDoor
open Go.RowKit
noncomputable section
def S_i_TurnsAbout : Sums := ⟨tblS [(61, run_i_asked), (116, run_i_TurnsAbout_c1), (117, run_i_turnsAbout)], tblM []⟩
theorem SO_i_TurnsAbout : SumsOK Tryz.prog S_i_TurnsAbout := ⟨tblS_ok ⟨⟨Tryz.call61, sound_i_asked⟩, ⟨Tryz.call116, sound_i_TurnsAbout_c1⟩, ⟨Tryz.call117, sound_i_turnsAbout⟩, True.intro⟩, tblM_ok True.intro⟩
def Fo_i_TurnsAbout (p : Int) (colour : Int) (a : Int × Int) : Option ((Nat × List Int) × Int) :=
  (if ((true) || !(i_IsField p)) = true then (if ((i_asked p (true) (i_TurnsAbout_c1 colour p a)) != 0) = true then some ((0, []), (i_asked p (true) (i_TurnsAbout_c1 colour p a))) else (if ((Fo_i_turnsAbout p colour a).isSome) = true then some (((i_turnsAbout p colour a).1, (i_turnsAbout p colour a).2), 0) else none)) else none)
theorem eq_i_TurnsAbout (p : Int) (colour : Int) (a : Int × Int) : execT Tryz.prog S_i_TurnsAbout 38 19 (fun _ => 1000000) dec_l28_6_i [.v (.int .i64 p), .v (.int .i64 colour), .v (.agg ⟨[.int .i64 a.1, .int .i64 a.2]⟩)] = Fo_i_TurnsAbout p colour a := by
  kernel_rfl
theorem ITurns_at {p c : Int} {a : P2} (h : i_asked p true (i_TurnsAbout_c1 c p a) = 0) {K : List P4o} {U V : List P6o} (F : Facts p c K U V) : Fo_i_TurnsAbout p c a = some ((U.length, flat6 (U.map fun m => s_l07About p m a)), 0) := by
  have hi := iturns_is (Pr_prB (i_IsField_ok (turn_zero h).1)) F a
  have hv : i_turnsAbout p c a = (U.length, flat6 (U.map fun m => s_l07About p m a)) := by
    unfold i_turnsAbout
    rw [hi]
    rfl
  unfold Fo_i_TurnsAbout
  rw [h, hi, hv]
  rfl
theorem ITurns_ok (p c : Int) (a : P2) : ∃ r, Fo_i_TurnsAbout p c a = some r := by
  by_cases h : i_asked p true (i_TurnsAbout_c1 c p a) = 0
  · obtain ⟨K, U, V, F⟩ := facts_all (turn_zero h).1 (turn_zero h).2.1
    exact ⟨_, ITurns_at h F⟩
  · refine ⟨((0, []), i_asked p true (i_TurnsAbout_c1 c p a)), ?_⟩
    unfold Fo_i_TurnsAbout
    rw [if_pos (Bool.true_or _), if_pos (bne_iff_ne.2 h)]

def i_TurnsAbout : Int → Int → Int × Int → (Nat × List Int) × Int := shut fun p c a => (Fo_i_TurnsAbout p c a).getD ((0, []), 0)
theorem i_TurnsAbout_of {p c : Int} {a : Int × Int} {r : (Nat × List Int) × Int} (e : Fo_i_TurnsAbout p c a = some r) : i_TurnsAbout p c a = r := by
  unfold i_TurnsAbout
  rw [shut_eq, e]
  rfl
theorem tot_i_TurnsAbout (p : Int) (colour : Int) (a : Int × Int) : Fo_i_TurnsAbout p colour a = some (i_TurnsAbout p colour a) := by
  obtain ⟨r, h⟩ := ITurns_ok p colour a
  rw [i_TurnsAbout_of h]
  exact h
def run_i_TurnsAbout : List PV → Option (Bool × List TR)
  | [.v (.int .i64 p), .v (.int .i64 colour), .v (.agg ⟨[.int .i64 a0, .int .i64 a1]⟩)] => some (true, enc_l28_6_i (i_TurnsAbout p colour (a0, a1)))
  | _ => none
theorem sound_i_TurnsAbout : Sound Tryz.prog 38 run_i_TurnsAbout := by
  refine sound_of de_l28_6_i SO_i_TurnsAbout (by kernel_rfl) Tryz.func38 Tryz.ntmps38 rfl (by kernel_rfl) ?_
  intro W pvs avs rs hargs hrun
  unfold run_i_TurnsAbout at hrun
  split at hrun
  · simp only [Option.some.injEq, Prod.mk.injEq] at hrun
    obtain ⟨hp, rfl⟩ := hrun
    rename_i p colour a0 a1
    exact ⟨_, _, _, hargs, rfl, (eq_i_TurnsAbout p colour (a0, a1)).trans (tot_i_TurnsAbout p colour (a0, a1))⟩
  · cases hrun

def S_s_TurnsAbout : Sums := ⟨tblS [(118, run_s_l03Points), (119, run_s_l07All), (121, run_s_l07About), (120, run_s_l07Put)], tblM []⟩
theorem SO_s_TurnsAbout : SumsOK Tryz.prog S_s_TurnsAbout := ⟨tblS_ok ⟨⟨Tryz.call118, sound_s_l03Points⟩, ⟨Tryz.call119, sound_s_l07All⟩, ⟨Tryz.call121, sound_s_l07About⟩, ⟨Tryz.call120, sound_s_l07Put⟩, True.intro⟩, tblM_ok True.intro⟩
def T_s_TurnsAbout_0 (p : Int) (colour : Int) (a : Int × Int) (l23 : List Int) (m23 : Nat) (i : Int) : Tab := ⟨[.val (.int .i64 p), .val (.int .i64 colour), .val (.agg ⟨[.int .i64 a.1, .int .i64 a.2]⟩), .junk, .junk, .ptr 20 0, .val (.slice none 0 0), .val (.int .i64 0), .val (.int .i64 (s_l03Points p colour 1 [a.1, a.2])), .row 88, .row 92, .val (.int .i64 i), .val (.int .i64 p), .val (.int .i64 colour), .val (.agg ⟨[.int .i64 a.1, .int .i64 a.2]⟩), .row 60, .val (.int .i64 (s_l03Points p colour 1 [a.1, a.2])), .val (.int .i64 (s_l03Points p colour 1 [a.1, a.2])), .val (.bool ((s_l03Points p colour 1 [a.1, a.2]) != 0)), .junk, .val (.int .i64 p), .val (.int .i64 colour), .row 88, .junk, .junk, .junk, .junk, .junk, .junk, .junk, .junk, .junk, .junk, .junk, .junk, .junk, .junk, .junk, .junk, .junk], [(20, .box 26 [.val (.int .i64 a.1), .val (.int .i64 a.2)]), (60, .row 26 2 1 (.ints [a.1, a.2])), (88, .row 28 6 ((s_l07All p colour 1).1) (.ints ((s_l07All p colour 1).2))), (92, .row 28 6 m23 (.ints l23))]⟩
def X_s_TurnsAbout_0 (P : Program) (fu : Nat) (p : Int) (colour : Int) (a : Int × Int) (f : Nat) (l23 : List Int) (m23 : Nat) (i : Int) : Option ((Nat × List Int) × Int) := loopK (exec P S_s_TurnsAbout 40 (fuelOf fu []) (Code.sub [1, 1, 1, 0, 1, 0, 0] (bodyF P 39))) f (T_s_TurnsAbout_0 p colour a l23 m23 i) (kBlock 0 (kSeq (fun zs9 => exec P S_s_TurnsAbout 40 (fuelOf fu []) (Code.sub [1, 1, 1, 1] (bodyF P 39)) zs9 (finT P 39 dec_l28_6_i)) (finT P 39 dec_l28_6_i)))
def B_s_TurnsAbout_0 (p : Int) (colour : Int) (a : Int × Int) (rec0 : (List Int) → Nat → Int → Option ((Nat × List Int) × Int)) (l23 : List Int) (m23 : Nat) (i : Int) : Option ((Nat × List Int) × Int) :=
  (if (decide (i < (((s_l07All p colour 1).1 : Nat) : Int))) = true then (if (decide (0 ≤ i) && decide (i < (((s_l07All p colour 1).1 : Nat) : Int))) = true then (if (Nat.ble (i.toNat * 6 + 6) (((s_l07All p colour 1).2).length)) = true then (if (prB p) = true then (if ((Fo_s_l07Put 1000000 m23 l23 (s_l07About p (((s_l07All p colour 1).2).getD (i.toNat * 6 + 0) 0, ((s_l07All p colour 1).2).getD (i.toNat * 6 + 1) 0, ((s_l07All p colour 1).2).getD (i.toNat * 6 + 2) 0, ((s_l07All p colour 1).2).getD (i.toNat * 6 + 3) 0, ((s_l07All p colour 1).2).getD (i.toNat * 6 + 4) 0, ((s_l07All p colour 1).2).getD (i.toNat * 6 + 5) 0) a)).isSome) = true then rec0 ((s_l07Put m23 l23 (s_l07About p (((s_l07All p colour 1).2).getD (i.toNat * 6 + 0) 0, ((s_l07All p colour 1).2).getD (i.toNat * 6 + 1) 0, ((s_l07All p colour 1).2).getD (i.toNat * 6 + 2) 0, ((s_l07All p colour 1).2).getD (i.toNat * 6 + 3) 0, ((s_l07All p colour 1).2).getD (i.toNat * 6 + 4) 0, ((s_l07All p colour 1).2).getD (i.toNat * 6 + 5) 0) a)).2) ((s_l07Put m23 l23 (s_l07About p (((s_l07All p colour 1).2).getD (i.toNat * 6 + 0) 0, ((s_l07All p colour 1).2).getD (i.toNat * 6 + 1) 0, ((s_l07All p colour 1).2).getD (i.toNat * 6 + 2) 0, ((s_l07All p colour 1).2).getD (i.toNat * 6 + 3) 0, ((s_l07All p colour 1).2).getD (i.toNat * 6 + 4) 0, ((s_l07All p colour 1).2).getD (i.toNat * 6 + 5) 0) a)).1) (wI (i + 1)) else none) else none) else none) else none) else some ((m23, l23), 0))
def L_s_TurnsAbout_0 (fu : Nat) (p : Int) (colour : Int) (a : Int × Int) : Nat → (List Int) → Nat → Int → Option ((Nat × List Int) × Int)
  | 0, _, _, _ => none
  | f + 1, l23, m23, i => B_s_TurnsAbout_0 p colour a (L_s_TurnsAbout_0 fu p colour a f) l23 m23 i
theorem loop_s_TurnsAbout_0 (fu : Nat) (p : Int) (colour : Int) (a : Int × Int) : ∀ (f : Nat) (l23 : List Int) (m23 : Nat) (i : Int), X_s_TurnsAbout_0 Tryz.prog fu p colour a f l23 m23 i = L_s_TurnsAbout_0 fu p colour a f l23 m23 i := by
  intro f
  induction f with
  | zero => intros; rfl
  | succ f ih =>
    intro l23 m23 i
    have h1 : X_s_TurnsAbout_0 Tryz.prog fu p colour a (f + 1) l23 m23 i = B_s_TurnsAbout_0 p colour a (X_s_TurnsAbout_0 Tryz.prog fu p colour a f) l23 m23 i := by kernel_rfl
    have h2 : X_s_TurnsAbout_0 Tryz.prog fu p colour a f = L_s_TurnsAbout_0 fu p colour a f := by funext l23 m23 i; exact ih l23 m23 i
    rw [h1, h2]
    rfl
def G_s_TurnsAbout (p : Int) (colour : Int) (a : Int × Int) (lo0 : (List Int) → Nat → Int → Option ((Nat × List Int) × Int)) : Option ((Nat × List Int) × Int) :=
  (if ((s_l03Points p colour 1 [a.1, a.2]) != 0) = true then some ((0, []), (s_l03Points p colour 1 [a.1, a.2])) else (if (ok_s_l07All p colour 1) = true then lo0 [] 0 0 else none))
def Fo_s_TurnsAbout (fu : Nat) (p : Int) (colour : Int) (a : Int × Int) : Option ((Nat × List Int) × Int) := G_s_TurnsAbout p colour a (L_s_TurnsAbout_0 fu p colour a fu)
theorem eqg_s_TurnsAbout (fu : Nat) (p : Int) (colour : Int) (a : Int × Int) : execT Tryz.prog S_s_TurnsAbout 39 40 (fuelOf fu []) dec_l28_6_i [.v (.int .i64 p), .v (.int .i64 colour), .v (.agg ⟨[.int .i64 a.1, .int .i64 a.2]⟩)] = G_s_TurnsAbout p colour a (L_s_TurnsAbout_0 fu p colour a fu) := by
  have h1 : execT Tryz.prog S_s_TurnsAbout 39 40 (fuelOf fu []) dec_l28_6_i [.v (.int .i64 p), .v (.int .i64 colour), .v (.agg ⟨[.int .i64 a.1, .int .i64 a.2]⟩)] = G_s_TurnsAbout p colour a (X_s_TurnsAbout_0 Tryz.prog fu p colour a fu) := by kernel_rfl
  have c0 : X_s_TurnsAbout_0 Tryz.prog fu p colour a fu = L_s_TurnsAbout_0 fu p colour a fu := by funext l23 m23 i; exact loop_s_TurnsAbout_0 fu p colour a fu l23 m23 i
  rw [h1, c0]
theorem eq_s_TurnsAbout (fu : Nat) (p : Int) (colour : Int) (a : Int × Int) : execT Tryz.prog S_s_TurnsAbout 39 40 (fuelOf fu []) dec_l28_6_i [.v (.int .i64 p), .v (.int .i64 colour), .v (.agg ⟨[.int .i64 a.1, .int .i64 a.2]⟩)] = Fo_s_TurnsAbout fu p colour a := eqg_s_TurnsAbout fu p colour a
theorem sturn_go {p c : Int} (hp : prB p = true) (a : Int × Int) {U : List P6o} (hu : s_l07All p c 1 = (U.length, flat6 U)) (hU : U.length < 500) (hk : U.Pairwise (fun m n => key6 m ≠ key6 n)) :
    ∀ (Q D : List P6o) (F : Nat), U = D ++ Q → Q.length < F → L_s_TurnsAbout_0 1000000 p c a F (flat6 (sort6 (D.map fun m => s_l07About p m a))) (sort6 (D.map fun m => s_l07About p m a)).length ((D.length : Nat) : Int) =
      some (((sort6 (U.map fun m => s_l07About p m a)).length, flat6 (sort6 (U.map fun m => s_l07About p m a))), 0)
  | Q, D, 0, _, h => absurd h (Nat.not_lt_zero _)
  | [], D, F + 1, e, _ => by
    obtain rfl : U = D := by simpa using e
    show B_s_TurnsAbout_0 p c a (L_s_TurnsAbout_0 1000000 p c a F) _ _ _ = _
    unfold B_s_TurnsAbout_0
    rw [if_neg (by rw [hu]; simp)]
  | m :: Q, D, F + 1, e, hF => by
    have e2 : U = (D ++ [m]) ++ Q := by rw [e]; simp
    have ih := sturn_go hp a hu hU hk Q (D ++ [m]) F e2 (by simpa using hF)
    have hlt : D.length < U.length := by rw [e]; simp
    have hrow := flat6_row U D.length hlt
    have hg : U[D.length] = m := by simp only [e]; simp
    rw [hg] at hrow
    have hfl := flat6_len U
    have hlen : ∀ L : List P6o, (sort6 L).length = L.length := by
      have : ∀ L A : List P6o, (L.foldl (fun A x => ins6 x A) A).length = A.length + L.length := by
        intro L
        induction L with
        | nil => intro A; rfl
        | cons x L ihL =>
          intro A
          show (L.foldl _ (ins6 x A)).length = _
          rw [ihL, ins6_len, List.length_cons]
          omega
      intro L
      have h := this L []
      simp only [List.length_nil, Nat.zero_add] at h
      exact h
    have hmem : ∀ L : List P6o, ∀ y, y ∈ sort6 L → y ∈ L := by
      have : ∀ L A : List P6o, ∀ y, y ∈ L.foldl (fun A x => ins6 x A) A → y ∈ A ∨ y ∈ L := by
        intro L
        induction L with
        | nil => intro A y h; exact Or.inl h
        | cons x L ihL =>
          intro A y h
          rcases ihL (ins6 x A) y h with h | h
          · rcases ins6_mem.1 h with rfl | h
            · exact Or.inr (by simp)
            · exact Or.inl h
          · exact Or.inr (by simp [h])
      intro L y h
      rcases this L [] y h with h | h
      · cases h
      · exact h
    have hkey : ∀ z : P6o, key6 (s_l07About p z a) = key6 z := fun z => rfl
    have hx : ∀ y ∈ sort6 (D.map fun m => s_l07About p m a), key6 y ≠ key6 (s_l07About p m a) := by
      intro y hy
      obtain ⟨z, hz, rfl⟩ := List.mem_map.1 (hmem _ y hy)
      rw [hkey, hkey]
      rw [e, List.pairwise_append] at hk
      exact hk.2.2 z hz m (by simp)
    have hD : (sort6 (D.map fun m => s_l07About p m a)).length < 1000 := by rw [hlen, List.length_map]; omega
    have hfold : ins6 (s_l07About p m a) (sort6 (D.map fun m => s_l07About p m a)) = sort6 ((D ++ [m]).map fun m => s_l07About p m a) := by
      unfold sort6
      rw [List.map_append, List.foldl_append]
      rfl
    have hw : wI (((D.length : Nat) : Int) + 1) = (((D ++ [m]).length : Nat) : Int) := by
      rw [wI_eq, List.length_append]
      unfold wrap64
      simp
      omega
    have r0 := congrArg (fun z : P6o => z.1) hrow; have r1 := congrArg (fun z : P6o => z.2.1) hrow; have r2 := congrArg (fun z : P6o => z.2.2.1) hrow
    have r3 := congrArg (fun z : P6o => z.2.2.2.1) hrow; have r4 := congrArg (fun z : P6o => z.2.2.2.2.1) hrow; have r5 := congrArg (fun z : P6o => z.2.2.2.2.2) hrow
    dsimp only at r0 r1 r2 r3 r4 r5
    show B_s_TurnsAbout_0 p c a (L_s_TurnsAbout_0 1000000 p c a F) _ _ _ = _
    unfold B_s_TurnsAbout_0
    simp only [hu]
    rw [if_pos (by simpa using hlt), if_pos (by simpa using hlt), if_pos (by rw [Int.toNat_natCast]; exact Nat.ble_eq_true_of_le (by omega)), Int.toNat_natCast, r0, r1, r2, r3, r4, r5, if_pos hp]
    show (if (Fo_s_l07Put 1000000 _ _ (s_l07About p m a)).isSome = true then L_s_TurnsAbout_0 1000000 p c a F (s_l07Put _ _ (s_l07About p m a)).2 (s_l07Put _ _ (s_l07About p m a)).1 (wI (((D.length : Nat) : Int) + 1)) else none) = _
    rw [if_pos (by rw [put_is _ _ hD hx]; rfl), put_val _ _ hD hx, hw]
    dsimp only
    rw [hfold, show (sort6 (D.map fun m => s_l07About p m a)).length + 1 = (sort6 ((D ++ [m]).map fun m => s_l07About p m a)).length by rw [hlen, hlen, List.length_map, List.length_map, List.length_append]; rfl]
    exact ih
theorem sturns_loop {p c : Int} (hp : prB p = true) {K : List P4o} {U V : List P6o} (F : Facts p c K U V) (a : Int × Int) : L_s_TurnsAbout_0 1000000 p c a 1000000 [] 0 0 = some ((U.length, flat6 (U.map fun m => s_l07About p m a)), 0) := by
  have hu : s_l07All p c 1 = (U.length, flat6 U) := s_l07All_of F.u
  have hs := facts_sorted F
  have hb : U.length < 500 := by have := F.kn; have := F.ku; omega
  have h := sturn_go (c := c) hp a hu hb (lt6_pair hs) U [] 1000000 rfl (by omega)
  have e : sort6 (U.map fun m => s_l07About p m a) = U.map fun m => s_l07About p m a := by
    rw [← sort6_map (fun m => s_l07About p m a) (fun _ => rfl), sort6_id U hs]
  rw [e, List.length_map] at h
  exact h
theorem STurns_at {p c : Int} {a : P2} (h : i_asked p true (i_TurnsAbout_c1 c p a) = 0) {K : List P4o} {U V : List P6o} (F : Facts p c K U V) : Fo_s_TurnsAbout 1000000 p c a = some ((U.length, flat6 (U.map fun m => s_l07About p m a)), 0) := by
  unfold Fo_s_TurnsAbout G_s_TurnsAbout
  rw [turncode, h, if_neg (by simp), if_pos (ok_s_l07All_of F.u)]
  exact sturns_loop (Pr_prB (i_IsField_ok (turn_zero h).1)) F a
theorem STurns_ok (p c : Int) (a : P2) : ∃ r, Fo_s_TurnsAbout 1000000 p c a = some r := by
  by_cases h : i_asked p true (i_TurnsAbout_c1 c p a) = 0
  · obtain ⟨K, U, V, F⟩ := facts_all (turn_zero h).1 (turn_zero h).2.1
    exact ⟨_, STurns_at h F⟩
  · refine ⟨((0, []), i_asked p true (i_TurnsAbout_c1 c p a)), ?_⟩
    unfold Fo_s_TurnsAbout G_s_TurnsAbout
    rw [turncode, if_pos (bne_iff_ne.2 h)]

def s_TurnsAbout : Int → Int → Int × Int → (Nat × List Int) × Int := shut fun p c a => (Fo_s_TurnsAbout 1000000 p c a).getD ((0, []), 0)
theorem s_TurnsAbout_of {p c : Int} {a : Int × Int} {r : (Nat × List Int) × Int} (e : Fo_s_TurnsAbout 1000000 p c a = some r) : s_TurnsAbout p c a = r := by
  unfold s_TurnsAbout
  rw [shut_eq, e]
  rfl
theorem tot_s_TurnsAbout (p : Int) (colour : Int) (a : Int × Int) : Fo_s_TurnsAbout 1000000 p colour a = some (s_TurnsAbout p colour a) := by
  obtain ⟨r, h⟩ := STurns_ok p colour a
  rw [s_TurnsAbout_of h]
  exact h
def run_s_TurnsAbout : List PV → Option (Bool × List TR)
  | [.v (.int .i64 p), .v (.int .i64 colour), .v (.agg ⟨[.int .i64 a0, .int .i64 a1]⟩)] => some (true, enc_l28_6_i (s_TurnsAbout p colour (a0, a1)))
  | _ => none
theorem sound_s_TurnsAbout : Sound Tryz.prog 39 run_s_TurnsAbout := by
  refine sound_of de_l28_6_i SO_s_TurnsAbout (by kernel_rfl) Tryz.func39 Tryz.ntmps39 rfl (by kernel_rfl) ?_
  intro W pvs avs rs hargs hrun
  unfold run_s_TurnsAbout at hrun
  split at hrun
  · simp only [Option.some.injEq, Prod.mk.injEq] at hrun
    obtain ⟨hp, rfl⟩ := hrun
    rename_i p colour a0 a1
    exact ⟨_, _, _, hargs, rfl, (eq_s_TurnsAbout _ p colour (a0, a1)).trans (tot_s_TurnsAbout p colour (a0, a1))⟩
  · cases hrun

def S_i_CountTurns : Sums := ⟨tblS [(61, run_i_asked), (122, run_i_CountTurns_c1), (117, run_i_turnsAbout)], tblM []⟩
theorem SO_i_CountTurns : SumsOK Tryz.prog S_i_CountTurns := ⟨tblS_ok ⟨⟨Tryz.call61, sound_i_asked⟩, ⟨Tryz.call122, sound_i_CountTurns_c1⟩, ⟨Tryz.call117, sound_i_turnsAbout⟩, True.intro⟩, tblM_ok True.intro⟩
def Fo_i_CountTurns (p : Int) (colour : Int) : Option (Int × Int) :=
  (if ((true) || !(i_IsField p)) = true then (if ((i_asked p (true) (i_CountTurns_c1 colour)) != 0) = true then some (0, (i_asked p (true) (i_CountTurns_c1 colour))) else (if ((Fo_i_turnsAbout p colour (0, 0)).isSome) = true then some ((((i_turnsAbout p colour (0, 0)).1 : Nat) : Int), 0) else none)) else none)
theorem eq_i_CountTurns (p : Int) (colour : Int) : execT Tryz.prog S_i_CountTurns 40 18 (fun _ => 1000000) dec_i_i [.v (.int .i64 p), .v (.int .i64 colour)] = Fo_i_CountTurns p colour := by
  kernel_rfl
theorem ICount_at {p c : Int} (h : i_asked p true (i_CountTurns_c1 c) = 0) {K : List P4o} {U V : List P6o} (F : Facts p c K U V) : Fo_i_CountTurns p c = some (((U.length : Nat) : Int), 0) := by
  have hi := iturns_is (Pr_prB (i_IsField_ok (count_zero h).1)) F (0, 0)
  have hv : i_turnsAbout p c (0, 0) = (U.length, flat6 (U.map fun m => s_l07About p m (0, 0))) := by
    unfold i_turnsAbout
    rw [hi]
    rfl
  unfold Fo_i_CountTurns
  rw [h, hi, hv]
  rfl
theorem ICount_ok (p c : Int) : ∃ r, Fo_i_CountTurns p c = some r := by
  by_cases h : i_asked p true (i_CountTurns_c1 c) = 0
  · obtain ⟨K, U, V, F⟩ := facts_all (count_zero h).1 (count_zero h).2
    exact ⟨_, ICount_at h F⟩
  · refine ⟨(0, i_asked p true (i_CountTurns_c1 c)), ?_⟩
    unfold Fo_i_CountTurns
    rw [if_pos (Bool.true_or _), if_pos (bne_iff_ne.2 h)]

def i_CountTurns : Int → Int → Int × Int := shut fun p c => (Fo_i_CountTurns p c).getD (0, 0)
theorem i_CountTurns_of {p c : Int} {r : Int × Int} (e : Fo_i_CountTurns p c = some r) : i_CountTurns p c = r := by
  unfold i_CountTurns
  rw [shut_eq, e]
  rfl
theorem tot_i_CountTurns (p : Int) (colour : Int) : Fo_i_CountTurns p colour = some (i_CountTurns p colour) := by
  obtain ⟨r, h⟩ := ICount_ok p colour
  rw [i_CountTurns_of h]
  exact h
def run_i_CountTurns : List PV → Option (Bool × List TR)
  | [.v (.int .i64 p), .v (.int .i64 colour)] => some (true, enc_i_i (i_CountTurns p colour))
  | _ => none
theorem sound_i_CountTurns : Sound Tryz.prog 40 run_i_CountTurns := by
  refine sound_of de_i_i SO_i_CountTurns (by kernel_rfl) Tryz.func40 Tryz.ntmps40 rfl (by kernel_rfl) ?_
  intro W pvs avs rs hargs hrun
  unfold run_i_CountTurns at hrun
  split at hrun
  · simp only [Option.some.injEq, Prod.mk.injEq] at hrun
    obtain ⟨hp, rfl⟩ := hrun
    rename_i p colour
    exact ⟨_, _, _, hargs, rfl, (eq_i_CountTurns p colour).trans (tot_i_CountTurns p colour)⟩
  · cases hrun

def S_s_CountTurns : Sums := ⟨tblS [(118, run_s_l03Points), (119, run_s_l07All)], tblM []⟩
theorem SO_s_CountTurns : SumsOK Tryz.prog S_s_CountTurns := ⟨tblS_ok ⟨⟨Tryz.call118, sound_s_l03Points⟩, ⟨Tryz.call119, sound_s_l07All⟩, True.intro⟩, tblM_ok True.intro⟩
def Fo_s_CountTurns (p : Int) (colour : Int) : Option (Int × Int) :=
  (if ((s_l03Points p colour 0 []) != 0) = true then some (0, (s_l03Points p colour 0 [])) else (if (ok_s_l07All p colour 1) = true then some ((((s_l07All p colour 1).1 : Nat) : Int), 0) else none))
theorem eq_s_CountTurns (p : Int) (colour : Int) : execT Tryz.prog S_s_CountTurns 41 17 (fun _ => 1000000) dec_i_i [.v (.int .i64 p), .v (.int .i64 colour)] = Fo_s_CountTurns p colour := by
  kernel_rfl
theorem SCount_at {p c : Int} (h : i_asked p true (i_CountTurns_c1 c) = 0) {K : List P4o} {U V : List P6o} (F : Facts p c K U V) : Fo_s_CountTurns p c = some (((U.length : Nat) : Int), 0) := by
  unfold Fo_s_CountTurns
  rw [countcode, h, if_neg (by simp), if_pos (ok_s_l07All_of F.u), s_l07All_of F.u]
theorem SCount_ok (p c : Int) : ∃ r, Fo_s_CountTurns p c = some r := by
  by_cases h : i_asked p true (i_CountTurns_c1 c) = 0
  · obtain ⟨K, U, V, F⟩ := facts_all (count_zero h).1 (count_zero h).2
    exact ⟨_, SCount_at h F⟩
  · refine ⟨(0, i_asked p true (i_CountTurns_c1 c)), ?_⟩
    unfold Fo_s_CountTurns
    rw [countcode, if_pos (bne_iff_ne.2 h)]

def s_CountTurns : Int → Int → Int × Int := shut fun p c => (Fo_s_CountTurns p c).getD (0, 0)
theorem s_CountTurns_of {p c : Int} {r : Int × Int} (e : Fo_s_CountTurns p c = some r) : s_CountTurns p c = r := by
  unfold s_CountTurns
  rw [shut_eq, e]
  rfl
theorem tot_s_CountTurns (p : Int) (colour : Int) : Fo_s_CountTurns p colour = some (s_CountTurns p colour) := by
  obtain ⟨r, h⟩ := SCount_ok p colour
  rw [s_CountTurns_of h]
  exact h
def run_s_CountTurns : List PV → Option (Bool × List TR)
  | [.v (.int .i64 p), .v (.int .i64 colour)] => some (true, enc_i_i (s_CountTurns p colour))
  | _ => none
theorem sound_s_CountTurns : Sound Tryz.prog 41 run_s_CountTurns := by
  refine sound_of de_i_i SO_s_CountTurns (by kernel_rfl) Tryz.func41 Tryz.ntmps41 rfl (by kernel_rfl) ?_
  intro W pvs avs rs hargs hrun
  unfold run_s_CountTurns at hrun
  split at hrun
  · simp only [Option.some.injEq, Prod.mk.injEq] at hrun
    obtain ⟨hp, rfl⟩ := hrun
    rename_i p colour
    exact ⟨_, _, _, hargs, rfl, (eq_s_CountTurns p colour).trans (tot_s_CountTurns p colour)⟩
  · cases hrun

def S_i_MovesBetween : Sums := ⟨tblS [(61, run_i_asked), (125, run_i_MovesBetween_c1), (73, run_i_quadrance), (58, run_i_less), (126, run_i_movesWith), (127, run_i_MovesBetween_c2)], tblM []⟩
theorem SO_i_MovesBetween : SumsOK Tryz.prog S_i_MovesBetween := ⟨tblS_ok ⟨⟨Tryz.call61, sound_i_asked⟩, ⟨Tryz.call125, sound_i_MovesBetween_c1⟩, ⟨Tryz.call73, sound_i_quadrance⟩, ⟨Tryz.call58, sound_i_less⟩, ⟨Tryz.call126, sound_i_movesWith⟩, ⟨Tryz.call127, sound_i_MovesBetween_c2⟩, True.intro⟩, tblM_ok True.intro⟩
def Fo_i_MovesBetween (p : Int) (colour : Int) (a : Int × Int) (b : Int × Int) (c : Int × Int) (d : Int × Int) : Option ((Nat × List Int) × Int) :=
  (if ((true) || !(i_IsField p)) = true then (if ((i_asked p (true) (i_MovesBetween_c1 colour p a b c d)) != 0) = true then some ((0, []), (i_asked p (true) (i_MovesBetween_c1 colour p a b c d))) else (if (prB p) = true then (if ((i_quadrance p colour a b) == 0) = true then some ((0, []), 5) else (if (prB p) = true then (if ((i_quadrance p colour a b) != (i_quadrance p colour c d)) = true then some ((0, []), 5) else (if (prB p) = true then (if (prB p) = true then (if ((Fo_i_movesWith 1000000 p colour a c (fun a0 => prB p) (fun a0 => i_MovesBetween_c2 a0 p (i_less p b a) (i_less p d c))).isSome) = true then some (((i_movesWith p colour a c (fun a0 => prB p) (fun a0 => i_MovesBetween_c2 a0 p (i_less p b a) (i_less p d c))).1, (i_movesWith p colour a c (fun a0 => prB p) (fun a0 => i_MovesBetween_c2 a0 p (i_less p b a) (i_less p d c))).2), 0) else none) else none) else none)) else none)) else none)) else none)
theorem eq_i_MovesBetween (p : Int) (colour : Int) (a : Int × Int) (b : Int × Int) (c : Int × Int) (d : Int × Int) : execT Tryz.prog S_i_MovesBetween 44 54 (fun _ => 1000000) dec_l28_6_i [.v (.int .i64 p), .v (.int .i64 colour), .v (.agg ⟨[.int .i64 a.1, .int .i64 a.2]⟩), .v (.agg ⟨[.int .i64 b.1, .int .i64 b.2]⟩), .v (.agg ⟨[.int .i64 c.1, .int .i64 c.2]⟩), .v (.agg ⟨[.int .i64 d.1, .int .i64 d.2]⟩)] = Fo_i_MovesBetween p colour a b c d := by
  kernel_rfl
theorem IBetween_at {p k : Int} {a b d e : P2} (h : i_asked p true (i_MovesBetween_c1 k p a b d e) = 0) (hq : i_quadrance p k a b ≠ 0) (hs : i_quadrance p k a b = i_quadrance p k d e) {K : List P4o} {U V : List P6o} (F : Facts p k K U V) :
    Fo_i_MovesBetween p k a b d e = some ((((K.filter fun m => i_MovesBetween_c2 m p (i_less p b a) (i_less p e d)).map (shiftM p a d)).length, flat6 (sort6 ((K.filter fun m => i_MovesBetween_c2 m p (i_less p b a) (i_less p e d)).map (shiftM p a d)))), 0) := by
  have hp := Pr_prB (i_IsField_ok (asked_zero h).1)
  have hm := movesWith_is (c := k) hp a d (fun _ => prB p) (fun a0 => i_MovesBetween_c2 a0 p (i_less p b a) (i_less p e d)) F.k (by have := F.kn; omega) (fun _ => hp)
  have hv : i_movesWith p k a d (fun _ => prB p) (fun a0 => i_MovesBetween_c2 a0 p (i_less p b a) (i_less p e d)) = (((K.filter fun m => i_MovesBetween_c2 m p (i_less p b a) (i_less p e d)).map (shiftM p a d)).length, flat6 (sort6 ((K.filter fun m => i_MovesBetween_c2 m p (i_less p b a) (i_less p e d)).map (shiftM p a d)))) := by
    unfold i_movesWith
    rw [hm]
    rfl
  unfold Fo_i_MovesBetween
  rw [if_pos (Bool.true_or _), h, if_neg (by decide), if_pos hp, if_neg (by simpa using hq), if_pos hp, if_neg (by simpa using hs), if_pos hp, if_pos hp, hm, hv]
  rfl
theorem IBetween_low {p k : Int} {a b d e : P2} (h : i_asked p true (i_MovesBetween_c1 k p a b d e) ≠ 0) : Fo_i_MovesBetween p k a b d e = some ((0, []), i_asked p true (i_MovesBetween_c1 k p a b d e)) := by
  unfold Fo_i_MovesBetween
  rw [if_pos (Bool.true_or _), if_pos (bne_iff_ne.2 h)]
theorem IBetween_five {p k : Int} {a b d e : P2} (h : i_asked p true (i_MovesBetween_c1 k p a b d e) = 0) (hq : i_quadrance p k a b = 0 ∨ i_quadrance p k a b ≠ i_quadrance p k d e) : Fo_i_MovesBetween p k a b d e = some ((0, []), 5) := by
  have hp := Pr_prB (i_IsField_ok (asked_zero h).1)
  unfold Fo_i_MovesBetween
  rw [if_pos (Bool.true_or _), h, if_neg (by decide), if_pos hp]
  by_cases h0 : i_quadrance p k a b = 0
  · rw [if_pos (by rw [h0]; rfl)]
  · rw [if_neg (by simpa using h0), if_pos hp, if_pos (by rcases hq with g | g; exact absurd g h0; exact bne_iff_ne.2 g)]
theorem between_zero {p k : Int} {a b d e : P2} (h : i_asked p true (i_MovesBetween_c1 k p a b d e) = 0) : i_IsField p = true ∧ isC k ∧ i_isPoint p a = true ∧ i_isPoint p b = true ∧ i_isPoint p d = true ∧ i_isPoint p e = true := by
  obtain ⟨hf, hb⟩ := asked_zero h
  unfold i_MovesBetween_c1 at hb
  cases hc : i_isColour k
  · rw [hc] at hb; cases hb
  · rw [hc, if_pos rfl] at hb
    refine ⟨hf, isC_of hc, ?_⟩
    simpa [i_arePoints] using hb
theorem IBetween_ok (p k : Int) (a b d e : P2) : ∃ r, Fo_i_MovesBetween p k a b d e = some r := by
  by_cases h : i_asked p true (i_MovesBetween_c1 k p a b d e) = 0
  · by_cases hq : i_quadrance p k a b = 0 ∨ i_quadrance p k a b ≠ i_quadrance p k d e
    · exact ⟨_, IBetween_five h hq⟩
    · obtain ⟨K, U, V, F⟩ := facts_all (between_zero h).1 (between_zero h).2.1
      exact ⟨_, IBetween_at h (fun e => hq (Or.inl e)) (Decidable.byContradiction fun e => hq (Or.inr e)) F⟩
  · exact ⟨_, IBetween_low h⟩

def i_MovesBetween : Int → Int → Int × Int → Int × Int → Int × Int → Int × Int → (Nat × List Int) × Int := shut fun p k a b c d => (Fo_i_MovesBetween p k a b c d).getD ((0, []), 0)
theorem i_MovesBetween_of {p k : Int} {a b c d : Int × Int} {r : (Nat × List Int) × Int} (e : Fo_i_MovesBetween p k a b c d = some r) : i_MovesBetween p k a b c d = r := by
  unfold i_MovesBetween
  rw [shut_eq, e]
  rfl
theorem tot_i_MovesBetween (p : Int) (colour : Int) (a : Int × Int) (b : Int × Int) (c : Int × Int) (d : Int × Int) : Fo_i_MovesBetween p colour a b c d = some (i_MovesBetween p colour a b c d) := by
  obtain ⟨r, h⟩ := IBetween_ok p colour a b c d
  rw [i_MovesBetween_of h]
  exact h
def run_i_MovesBetween : List PV → Option (Bool × List TR)
  | [.v (.int .i64 p), .v (.int .i64 colour), .v (.agg ⟨[.int .i64 a0, .int .i64 a1]⟩), .v (.agg ⟨[.int .i64 b0, .int .i64 b1]⟩), .v (.agg ⟨[.int .i64 c0, .int .i64 c1]⟩), .v (.agg ⟨[.int .i64 d0, .int .i64 d1]⟩)] => some (true, enc_l28_6_i (i_MovesBetween p colour (a0, a1) (b0, b1) (c0, c1) (d0, d1)))
  | _ => none
theorem sound_i_MovesBetween : Sound Tryz.prog 44 run_i_MovesBetween := by
  refine sound_of de_l28_6_i SO_i_MovesBetween (by kernel_rfl) Tryz.func44 Tryz.ntmps44 rfl (by kernel_rfl) ?_
  intro W pvs avs rs hargs hrun
  unfold run_i_MovesBetween at hrun
  split at hrun
  · simp only [Option.some.injEq, Prod.mk.injEq] at hrun
    obtain ⟨hp, rfl⟩ := hrun
    rename_i p colour a0 a1 b0 b1 c0 c1 d0 d1
    exact ⟨_, _, _, hargs, rfl, (eq_i_MovesBetween p colour (a0, a1) (b0, b1) (c0, c1) (d0, d1)).trans (tot_i_MovesBetween p colour (a0, a1) (b0, b1) (c0, c1) (d0, d1))⟩
  · cases hrun

def S_s_MovesBetween : Sums := ⟨tblS [(118, run_s_l03Points), (128, run_s_l02Quadrance), (119, run_s_l07All), (130, run_s_l07Lead), (129, run_s_l01Minus), (88, run_s_l07Move), (120, run_s_l07Put)], tblM []⟩
theorem SO_s_MovesBetween : SumsOK Tryz.prog S_s_MovesBetween := ⟨tblS_ok ⟨⟨Tryz.call118, sound_s_l03Points⟩, ⟨Tryz.call128, sound_s_l02Quadrance⟩, ⟨Tryz.call119, sound_s_l07All⟩, ⟨Tryz.call130, sound_s_l07Lead⟩, ⟨Tryz.call129, sound_s_l01Minus⟩, ⟨Tryz.call88, sound_s_l07Move⟩, ⟨Tryz.call120, sound_s_l07Put⟩, True.intro⟩, tblM_ok True.intro⟩
def T_s_MovesBetween_2 (p : Int) (colour : Int) (a : Int × Int) (b : Int × Int) (c : Int × Int) (d : Int × Int) (l50 : List Int) (m50 : Nat) (sign : Int) : Tab := ⟨[.val (.int .i64 p), .val (.int .i64 colour), .val (.agg ⟨[.int .i64 a.1, .int .i64 a.2]⟩), .val (.agg ⟨[.int .i64 b.1, .int .i64 b.2]⟩), .val (.agg ⟨[.int .i64 c.1, .int .i64 c.2]⟩), .val (.agg ⟨[.int .i64 d.1, .int .i64 d.2]⟩), .junk, .junk, .ptr 32 0, .ptr 36 0, .ptr 40 0, .ptr 44 0, .val (.slice none 0 0), .val (.int .i64 0), .val (.int .i64 (s_l03Points p colour 4 [a.1, a.2, b.1, b.2, c.1, c.2, d.1, d.2])), .val (.int .i64 (s_l02Quadrance p colour a b)), .row 200, .val (.int .i64 sign), .junk, .junk, .junk, .val (.int .i64 p), .val (.int .i64 colour), .val (.agg ⟨[.int .i64 a.1, .int .i64 a.2]⟩), .val (.agg ⟨[.int .i64 b.1, .int .i64 b.2]⟩), .val (.agg ⟨[.int .i64 c.1, .int .i64 c.2]⟩), .val (.agg ⟨[.int .i64 d.1, .int .i64 d.2]⟩), .row 108, .val (.int .i64 (s_l03Points p colour 4 [a.1, a.2, b.1, b.2, c.1, c.2, d.1, d.2])), .val (.int .i64 (s_l03Points p colour 4 [a.1, a.2, b.1, b.2, c.1, c.2, d.1, d.2])), .val (.bool ((s_l03Points p colour 4 [a.1, a.2, b.1, b.2, c.1, c.2, d.1, d.2]) == 0)), .val (.int .i64 p), .val (.int .i64 colour), .val (.agg ⟨[.int .i64 a.1, .int .i64 a.2]⟩), .val (.agg ⟨[.int .i64 b.1, .int .i64 b.2]⟩), .val (.int .i64 (s_l02Quadrance p colour a b)), .val (.int .i64 (s_l02Quadrance p colour a b)), .val (.bool ((s_l02Quadrance p colour a b) == 0)), .val (.bool false), .val (.int .i64 (s_l02Quadrance p colour a b)), .val (.int .i64 p), .val (.int .i64 colour), .val (.agg ⟨[.int .i64 c.1, .int .i64 c.2]⟩), .val (.agg ⟨[.int .i64 d.1, .int .i64 d.2]⟩), .val (.int .i64 (s_l02Quadrance p colour c d)), .val (.bool ((s_l02Quadrance p colour a b) != (s_l02Quadrance p colour c d))), .val (.bool ((s_l02Quadrance p colour a b) != (s_l02Quadrance p colour c d))), .val (.int .i64 (s_l03Points p colour 4 [a.1, a.2, b.1, b.2, c.1, c.2, d.1, d.2])), .val (.bool ((s_l03Points p colour 4 [a.1, a.2, b.1, b.2, c.1, c.2, d.1, d.2]) != 0)), .junk, .junk, .junk, .junk, .junk, .junk, .junk, .junk, .junk, .junk, .junk, .junk, .junk, .junk, .junk, .junk, .junk, .junk, .junk, .junk, .junk, .junk, .junk, .junk, .junk, .junk, .junk, .junk, .junk, .junk, .junk, .junk, .junk, .junk, .junk, .junk, .junk, .junk], [(32, .box 26 [.val (.int .i64 a.1), .val (.int .i64 a.2)]), (36, .box 26 [.val (.int .i64 b.1), .val (.int .i64 b.2)]), (40, .box 26 [.val (.int .i64 c.1), .val (.int .i64 c.2)]), (44, .box 26 [.val (.int .i64 d.1), .val (.int .i64 d.2)]), (108, .row 26 2 4 (.ints [a.1, a.2, b.1, b.2, c.1, c.2, d.1, d.2])), (200, .row 28 6 m50 (.ints l50))]⟩
def T_s_MovesBetween_3 (p : Int) (colour : Int) (a : Int × Int) (b : Int × Int) (c : Int × Int) (d : Int × Int) (l50 : List Int) (m50 : Nat) (sign : Int) (l50' : List Int) (m50' : Nat) (i : Int) : Tab := ⟨[.val (.int .i64 p), .val (.int .i64 colour), .val (.agg ⟨[.int .i64 a.1, .int .i64 a.2]⟩), .val (.agg ⟨[.int .i64 b.1, .int .i64 b.2]⟩), .val (.agg ⟨[.int .i64 c.1, .int .i64 c.2]⟩), .val (.agg ⟨[.int .i64 d.1, .int .i64 d.2]⟩), .junk, .junk, .ptr 32 0, .ptr 36 0, .ptr 40 0, .ptr 44 0, .val (.slice none 0 0), .val (.int .i64 0), .val (.int .i64 (s_l03Points p colour 4 [a.1, a.2, b.1, b.2, c.1, c.2, d.1, d.2])), .val (.int .i64 (s_l02Quadrance p colour a b)), .row 200, .val (.int .i64 sign), .row 232, .val (.int .i64 i), .junk, .val (.int .i64 p), .val (.int .i64 colour), .val (.agg ⟨[.int .i64 a.1, .int .i64 a.2]⟩), .val (.agg ⟨[.int .i64 b.1, .int .i64 b.2]⟩), .val (.agg ⟨[.int .i64 c.1, .int .i64 c.2]⟩), .val (.agg ⟨[.int .i64 d.1, .int .i64 d.2]⟩), .row 108, .val (.int .i64 (s_l03Points p colour 4 [a.1, a.2, b.1, b.2, c.1, c.2, d.1, d.2])), .val (.int .i64 (s_l03Points p colour 4 [a.1, a.2, b.1, b.2, c.1, c.2, d.1, d.2])), .val (.bool ((s_l03Points p colour 4 [a.1, a.2, b.1, b.2, c.1, c.2, d.1, d.2]) == 0)), .val (.int .i64 p), .val (.int .i64 colour), .val (.agg ⟨[.int .i64 a.1, .int .i64 a.2]⟩), .val (.agg ⟨[.int .i64 b.1, .int .i64 b.2]⟩), .val (.int .i64 (s_l02Quadrance p colour a b)), .val (.int .i64 (s_l02Quadrance p colour a b)), .val (.bool ((s_l02Quadrance p colour a b) == 0)), .val (.bool false), .val (.int .i64 (s_l02Quadrance p colour a b)), .val (.int .i64 p), .val (.int .i64 colour), .val (.agg ⟨[.int .i64 c.1, .int .i64 c.2]⟩), .val (.agg ⟨[.int .i64 d.1, .int .i64 d.2]⟩), .val (.int .i64 (s_l02Quadrance p colour c d)), .val (.bool ((s_l02Quadrance p colour a b) != (s_l02Quadrance p colour c d))), .val (.bool ((s_l02Quadrance p colour a b) != (s_l02Quadrance p colour c d))), .val (.int .i64 (s_l03Points p colour 4 [a.1, a.2, b.1, b.2, c.1, c.2, d.1, d.2])), .val (.bool ((s_l03Points p colour 4 [a.1, a.2, b.1, b.2, c.1, c.2, d.1, d.2]) != 0)), .junk, .junk, .val (.int .i64 sign), .val (.bool (decide (sign < 2))), .junk, .junk, .val (.int .i64 p), .val (.int .i64 colour), .val (.int .i64 sign), .row 232, .junk, .junk, .junk, .junk, .junk, .junk, .junk, .junk, .junk, .junk, .junk, .junk, .junk, .junk, .junk, .junk, .junk, .junk, .junk, .junk, .junk, .junk, .junk, .junk, .junk, .junk, .junk, .junk], [(32, .box 26 [.val (.int .i64 a.1), .val (.int .i64 a.2)]), (36, .box 26 [.val (.int .i64 b.1), .val (.int .i64 b.2)]), (40, .box 26 [.val (.int .i64 c.1), .val (.int .i64 c.2)]), (44, .box 26 [.val (.int .i64 d.1), .val (.int .i64 d.2)]), (108, .row 26 2 4 (.ints [a.1, a.2, b.1, b.2, c.1, c.2, d.1, d.2])), (200, .row 28 6 m50' (.ints l50')), (232, .row 28 6 ((s_l07All p colour sign).1) (.ints ((s_l07All p colour sign).2)))]⟩
def T_s_MovesBetween_6 (p : Int) (colour : Int) (a : Int × Int) (b : Int × Int) (c : Int × Int) (d : Int × Int) (l50 : List Int) (m50 : Nat) (sign : Int) : Tab := ⟨[.val (.int .i64 p), .val (.int .i64 colour), .val (.agg ⟨[.int .i64 a.1, .int .i64 a.2]⟩), .val (.agg ⟨[.int .i64 b.1, .int .i64 b.2]⟩), .val (.agg ⟨[.int .i64 c.1, .int .i64 c.2]⟩), .val (.agg ⟨[.int .i64 d.1, .int .i64 d.2]⟩), .junk, .junk, .ptr 32 0, .ptr 36 0, .ptr 40 0, .ptr 44 0, .val (.slice none 0 0), .val (.int .i64 0), .val (.int .i64 (s_l03Points p colour 4 [a.1, a.2, b.1, b.2, c.1, c.2, d.1, d.2])), .junk, .row 200, .val (.int .i64 sign), .junk, .junk, .junk, .val (.int .i64 p), .val (.int .i64 colour), .val (.agg ⟨[.int .i64 a.1, .int .i64 a.2]⟩), .val (.agg ⟨[.int .i64 b.1, .int .i64 b.2]⟩), .val (.agg ⟨[.int .i64 c.1, .int .i64 c.2]⟩), .val (.agg ⟨[.int .i64 d.1, .int .i64 d.2]⟩), .row 108, .val (.int .i64 (s_l03Points p colour 4 [a.1, a.2, b.1, b.2, c.1, c.2, d.1, d.2])), .val (.int .i64 (s_l03Points p colour 4 [a.1, a.2, b.1, b.2, c.1, c.2, d.1, d.2])), .val (.bool ((s_l03Points p colour 4 [a.1, a.2, b.1, b.2, c.1, c.2, d.1, d.2]) == 0)), .junk, .junk, .junk, .junk, .junk, .junk, .junk, .junk, .junk, .junk, .junk, .junk, .junk, .junk, .junk, .junk, .val (.int .i64 (s_l03Points p colour 4 [a.1, a.2, b.1, b.2, c.1, c.2, d.1, d.2])), .val (.bool ((s_l03Points p colour 4 [a.1, a.2, b.1, b.2, c.1, c.2, d.1, d.2]) != 0)), .junk, .junk, .junk, .junk, .junk, .junk, .junk, .junk, .junk, .junk, .junk, .junk, .junk, .junk, .junk, .junk, .junk, .junk, .junk, .junk, .junk, .junk, .junk, .junk, .junk, .junk, .junk, .junk, .junk, .junk, .junk, .junk, .junk, .junk, .junk, .junk, .junk, .junk], [(32, .box 26 [.val (.int .i64 a.1), .val (.int .i64 a.2)]), (36, .box 26 [.val (.int .i64 b.1), .val (.int .i64 b.2)]), (40, .box 26 [.val (.int .i64 c.1), .val (.int .i64 c.2)]), (44, .box 26 [.val (.int .i64 d.1), .val (.int .i64 d.2)]), (108, .row 26 2 4 (.ints [a.1, a.2, b.1, b.2, c.1, c.2, d.1, d.2])), (200, .row 28 6 m50 (.ints l50))]⟩
def T_s_MovesBetween_7 (p : Int) (colour : Int) (a : Int × Int) (b : Int × Int) (c : Int × Int) (d : Int × Int) (l50 : List Int) (m50 : Nat) (sign : Int) (l50' : List Int) (m50' : Nat) (i : Int) : Tab := ⟨[.val (.int .i64 p), .val (.int .i64 colour), .val (.agg ⟨[.int .i64 a.1, .int .i64 a.2]⟩), .val (.agg ⟨[.int .i64 b.1, .int .i64 b.2]⟩), .val (.agg ⟨[.int .i64 c.1, .int .i64 c.2]⟩), .val (.agg ⟨[.int .i64 d.1, .int .i64 d.2]⟩), .junk, .junk, .ptr 32 0, .ptr 36 0, .ptr 40 0, .ptr 44 0, .val (.slice none 0 0), .val (.int .i64 0), .val (.int .i64 (s_l03Points p colour 4 [a.1, a.2, b.1, b.2, c.1, c.2, d.1, d.2])), .junk, .row 200, .val (.int .i64 sign), .row 232, .val (.int .i64 i), .junk, .val (.int .i64 p), .val (.int .i64 colour), .val (.agg ⟨[.int .i64 a.1, .int .i64 a.2]⟩), .val (.agg ⟨[.int .i64 b.1, .int .i64 b.2]⟩), .val (.agg ⟨[.int .i64 c.1, .int .i64 c.2]⟩), .val (.agg ⟨[.int .i64 d.1, .int .i64 d.2]⟩), .row 108, .val (.int .i64 (s_l03Points p colour 4 [a.1, a.2, b.1, b.2, c.1, c.2, d.1, d.2])), .val (.int .i64 (s_l03Points p colour 4 [a.1, a.2, b.1, b.2, c.1, c.2, d.1, d.2])), .val (.bool ((s_l03Points p colour 4 [a.1, a.2, b.1, b.2, c.1, c.2, d.1, d.2]) == 0)), .junk, .junk, .junk, .junk, .junk, .junk, .junk, .junk, .junk, .junk, .junk, .junk, .junk, .junk, .junk, .junk, .val (.int .i64 (s_l03Points p colour 4 [a.1, a.2, b.1, b.2, c.1, c.2, d.1, d.2])), .val (.bool ((s_l03Points p colour 4 [a.1, a.2, b.1, b.2, c.1, c.2, d.1, d.2]) != 0)), .junk, .junk, .val (.int .i64 sign), .val (.bool (decide (sign < 2))), .junk, .junk, .val (.int .i64 p), .val (.int .i64 colour), .val (.int .i64 sign), .row 232, .junk, .junk, .junk, .junk, .junk, .junk, .junk, .junk, .junk, .junk, .junk, .junk, .junk, .junk, .junk, .junk, .junk, .junk, .junk, .junk, .junk, .junk, .junk, .junk, .junk, .junk, .junk, .junk], [(32, .box 26 [.val (.int .i64 a.1), .val (.int .i64 a.2)]), (36, .box 26 [.val (.int .i64 b.1), .val (.int .i64 b.2)]), (40, .box 26 [.val (.int .i64 c.1), .val (.int .i64 c.2)]), (44, .box 26 [.val (.int .i64 d.1), .val (.int .i64 d.2)]), (108, .row 26 2 4 (.ints [a.1, a.2, b.1, b.2, c.1, c.2, d.1, d.2])), (200, .row 28 6 m50' (.ints l50')), (232, .row 28 6 ((s_l07All p colour sign).1) (.ints ((s_l07All p colour sign).2)))]⟩
def X_s_MovesBetween_3 (P : Program) (fu : Nat) (p : Int) (colour : Int) (a : Int × Int) (b : Int × Int) (c : Int × Int) (d : Int × Int) (l50 : List Int) (m50 : Nat) (sign : Int) (rc2 : Tab → Option ((Nat × List Int) × Int)) (f : Nat) (l50' : List Int) (m50' : Nat) (i : Int) : Option ((Nat × List Int) × Int) := loopK (exec P S_s_MovesBetween 87 (fuelOf fu []) (Code.sub [1, 1, 1, 1, 1, 0, 1, 0, 0, 1, 0, 0, 1, 1, 0, 0] (bodyF P 45))) f (T_s_MovesBetween_3 p colour a b c d l50 m50 sign l50' m50' i) (kBlock 2 (kBlock 1 (kSeq (fun zs9 => exec P S_s_MovesBetween 87 (fuelOf fu []) (Code.sub [1, 1, 1, 1, 1, 0, 1, 0, 0, 1, 1] (bodyF P 45)) zs9 (kLoop rc2 (T_s_MovesBetween_2 p colour a b c d l50 m50 sign) (kBlock 0 (kSeq (fun zs9 => exec P S_s_MovesBetween 87 (fuelOf fu []) (Code.sub [1, 1, 1, 1, 1, 1] (bodyF P 45)) zs9 (finT P 45 dec_l28_6_i)) (finT P 45 dec_l28_6_i))))) (kLoop rc2 (T_s_MovesBetween_2 p colour a b c d l50 m50 sign) (kBlock 0 (kSeq (fun zs9 => exec P S_s_MovesBetween 87 (fuelOf fu []) (Code.sub [1, 1, 1, 1, 1, 1] (bodyF P 45)) zs9 (finT P 45 dec_l28_6_i)) (finT P 45 dec_l28_6_i)))))))
def B_s_MovesBetween_3 (p : Int) (colour : Int) (a : Int × Int) (b : Int × Int) (c : Int × Int) (d : Int × Int) (l50 : List Int) (m50 : Nat) (sign : Int) (rec2 : (List Int) → Nat → Int → Option ((Nat × List Int) × Int)) (rec3 : (List Int) → Nat → Int → Option ((Nat × List Int) × Int)) (l50' : List Int) (m50' : Nat) (i : Int) : Option ((Nat × List Int) × Int) :=
  (if (decide (i < (((s_l07All p colour sign).1 : Nat) : Int))) = true then (if (decide (0 ≤ i) && decide (i < (((s_l07All p colour sign).1 : Nat) : Int))) = true then (if (Nat.ble (i.toNat * 6 + 6) (((s_l07All p colour sign).2).length)) = true then (if (prB p) = true then (if (prB p) = true then (if (prB p) = true then (if ((s_l07Move p (((s_l07All p colour sign).2).getD (i.toNat * 6 + 0) 0, ((s_l07All p colour sign).2).getD (i.toNat * 6 + 1) 0, ((s_l07All p colour sign).2).getD (i.toNat * 6 + 2) 0, ((s_l07All p colour sign).2).getD (i.toNat * 6 + 3) 0, (s_l01Minus p c (s_l07Lead p (((s_l07All p colour sign).2).getD (i.toNat * 6 + 0) 0, ((s_l07All p colour sign).2).getD (i.toNat * 6 + 1) 0, ((s_l07All p colour sign).2).getD (i.toNat * 6 + 2) 0, ((s_l07All p colour sign).2).getD (i.toNat * 6 + 3) 0, ((s_l07All p colour sign).2).getD (i.toNat * 6 + 4) 0, ((s_l07All p colour sign).2).getD (i.toNat * 6 + 5) 0) a)).1, (s_l01Minus p c (s_l07Lead p (((s_l07All p colour sign).2).getD (i.toNat * 6 + 0) 0, ((s_l07All p colour sign).2).getD (i.toNat * 6 + 1) 0, ((s_l07All p colour sign).2).getD (i.toNat * 6 + 2) 0, ((s_l07All p colour sign).2).getD (i.toNat * 6 + 3) 0, ((s_l07All p colour sign).2).getD (i.toNat * 6 + 4) 0, ((s_l07All p colour sign).2).getD (i.toNat * 6 + 5) 0) a)).2) b) == d) = true then (if ((Fo_s_l07Put 1000000 m50' l50' (((s_l07All p colour sign).2).getD (i.toNat * 6 + 0) 0, ((s_l07All p colour sign).2).getD (i.toNat * 6 + 1) 0, ((s_l07All p colour sign).2).getD (i.toNat * 6 + 2) 0, ((s_l07All p colour sign).2).getD (i.toNat * 6 + 3) 0, (s_l01Minus p c (s_l07Lead p (((s_l07All p colour sign).2).getD (i.toNat * 6 + 0) 0, ((s_l07All p colour sign).2).getD (i.toNat * 6 + 1) 0, ((s_l07All p colour sign).2).getD (i.toNat * 6 + 2) 0, ((s_l07All p colour sign).2).getD (i.toNat * 6 + 3) 0, ((s_l07All p colour sign).2).getD (i.toNat * 6 + 4) 0, ((s_l07All p colour sign).2).getD (i.toNat * 6 + 5) 0) a)).1, (s_l01Minus p c (s_l07Lead p (((s_l07All p colour sign).2).getD (i.toNat * 6 + 0) 0, ((s_l07All p colour sign).2).getD (i.toNat * 6 + 1) 0, ((s_l07All p colour sign).2).getD (i.toNat * 6 + 2) 0, ((s_l07All p colour sign).2).getD (i.toNat * 6 + 3) 0, ((s_l07All p colour sign).2).getD (i.toNat * 6 + 4) 0, ((s_l07All p colour sign).2).getD (i.toNat * 6 + 5) 0) a)).2)).isSome) = true then rec3 ((s_l07Put m50' l50' (((s_l07All p colour sign).2).getD (i.toNat * 6 + 0) 0, ((s_l07All p colour sign).2).getD (i.toNat * 6 + 1) 0, ((s_l07All p colour sign).2).getD (i.toNat * 6 + 2) 0, ((s_l07All p colour sign).2).getD (i.toNat * 6 + 3) 0, (s_l01Minus p c (s_l07Lead p (((s_l07All p colour sign).2).getD (i.toNat * 6 + 0) 0, ((s_l07All p colour sign).2).getD (i.toNat * 6 + 1) 0, ((s_l07All p colour sign).2).getD (i.toNat * 6 + 2) 0, ((s_l07All p colour sign).2).getD (i.toNat * 6 + 3) 0, ((s_l07All p colour sign).2).getD (i.toNat * 6 + 4) 0, ((s_l07All p colour sign).2).getD (i.toNat * 6 + 5) 0) a)).1, (s_l01Minus p c (s_l07Lead p (((s_l07All p colour sign).2).getD (i.toNat * 6 + 0) 0, ((s_l07All p colour sign).2).getD (i.toNat * 6 + 1) 0, ((s_l07All p colour sign).2).getD (i.toNat * 6 + 2) 0, ((s_l07All p colour sign).2).getD (i.toNat * 6 + 3) 0, ((s_l07All p colour sign).2).getD (i.toNat * 6 + 4) 0, ((s_l07All p colour sign).2).getD (i.toNat * 6 + 5) 0) a)).2)).2) ((s_l07Put m50' l50' (((s_l07All p colour sign).2).getD (i.toNat * 6 + 0) 0, ((s_l07All p colour sign).2).getD (i.toNat * 6 + 1) 0, ((s_l07All p colour sign).2).getD (i.toNat * 6 + 2) 0, ((s_l07All p colour sign).2).getD (i.toNat * 6 + 3) 0, (s_l01Minus p c (s_l07Lead p (((s_l07All p colour sign).2).getD (i.toNat * 6 + 0) 0, ((s_l07All p colour sign).2).getD (i.toNat * 6 + 1) 0, ((s_l07All p colour sign).2).getD (i.toNat * 6 + 2) 0, ((s_l07All p colour sign).2).getD (i.toNat * 6 + 3) 0, ((s_l07All p colour sign).2).getD (i.toNat * 6 + 4) 0, ((s_l07All p colour sign).2).getD (i.toNat * 6 + 5) 0) a)).1, (s_l01Minus p c (s_l07Lead p (((s_l07All p colour sign).2).getD (i.toNat * 6 + 0) 0, ((s_l07All p colour sign).2).getD (i.toNat * 6 + 1) 0, ((s_l07All p colour sign).2).getD (i.toNat * 6 + 2) 0, ((s_l07All p colour sign).2).getD (i.toNat * 6 + 3) 0, ((s_l07All p colour sign).2).getD (i.toNat * 6 + 4) 0, ((s_l07All p colour sign).2).getD (i.toNat * 6 + 5) 0) a)).2)).1) (wI (i + 1)) else none) else rec3 l50' m50' (wI (i + 1))) else none) else none) else none) else none) else none) else rec2 l50' m50' (wI (sign + 2)))
def L_s_MovesBetween_3 (fu : Nat) (p : Int) (colour : Int) (a : Int × Int) (b : Int × Int) (c : Int × Int) (d : Int × Int) (l50 : List Int) (m50 : Nat) (sign : Int) (rec2 : (List Int) → Nat → Int → Option ((Nat × List Int) × Int)) : Nat → (List Int) → Nat → Int → Option ((Nat × List Int) × Int)
  | 0, _, _, _ => none
  | f + 1, l50', m50', i => B_s_MovesBetween_3 p colour a b c d l50 m50 sign rec2 (L_s_MovesBetween_3 fu p colour a b c d l50 m50 sign rec2 f) l50' m50' i
theorem loop_s_MovesBetween_3 (fu : Nat) (p : Int) (colour : Int) (a : Int × Int) (b : Int × Int) (c : Int × Int) (d : Int × Int) (l50 : List Int) (m50 : Nat) (sign : Int) (rc2 : Tab → Option ((Nat × List Int) × Int)) : ∀ (f : Nat) (l50' : List Int) (m50' : Nat) (i : Int), X_s_MovesBetween_3 Tryz.prog fu p colour a b c d l50 m50 sign rc2 f l50' m50' i = L_s_MovesBetween_3 fu p colour a b c d l50 m50 sign (fun l50 m50 sign => rc2 (T_s_MovesBetween_2 p colour a b c d l50 m50 sign)) f l50' m50' i := by
  intro f
  induction f with
  | zero => intros; rfl
  | succ f ih =>
    intro l50' m50' i
    have h1 : X_s_MovesBetween_3 Tryz.prog fu p colour a b c d l50 m50 sign rc2 (f + 1) l50' m50' i = B_s_MovesBetween_3 p colour a b c d l50 m50 sign (fun l50 m50 sign => rc2 (T_s_MovesBetween_2 p colour a b c d l50 m50 sign)) (X_s_MovesBetween_3 Tryz.prog fu p colour a b c d l50 m50 sign rc2 f) l50' m50' i := by kernel_rfl
    have h2 : X_s_MovesBetween_3 Tryz.prog fu p colour a b c d l50 m50 sign rc2 f = L_s_MovesBetween_3 fu p colour a b c d l50 m50 sign (fun l50 m50 sign => rc2 (T_s_MovesBetween_2 p colour a b c d l50 m50 sign)) f := by funext l50' m50' i; exact ih l50' m50' i
    rw [h1, h2]
    rfl
def X_s_MovesBetween_2 (P : Program) (fu : Nat) (p : Int) (colour : Int) (a : Int × Int) (b : Int × Int) (c : Int × Int) (d : Int × Int) (f : Nat) (l50 : List Int) (m50 : Nat) (sign : Int) : Option ((Nat × List Int) × Int) := loopK (exec P S_s_MovesBetween 87 (fuelOf fu []) (Code.sub [1, 1, 1, 1, 1, 0, 1, 0, 0] (bodyF P 45))) f (T_s_MovesBetween_2 p colour a b c d l50 m50 sign) (kBlock 0 (kSeq (fun zs9 => exec P S_s_MovesBetween 87 (fuelOf fu []) (Code.sub [1, 1, 1, 1, 1, 1] (bodyF P 45)) zs9 (finT P 45 dec_l28_6_i)) (finT P 45 dec_l28_6_i)))
def B_s_MovesBetween_2 (p : Int) (colour : Int) (a : Int × Int) (b : Int × Int) (c : Int × Int) (d : Int × Int) (lo3 : (List Int) → Nat → Int → Option ((Nat × List Int) × Int)) (rec2 : (List Int) → Nat → Int → Option ((Nat × List Int) × Int)) (l50 : List Int) (m50 : Nat) (sign : Int) : Option ((Nat × List Int) × Int) :=
  (if (decide (sign < 2)) = true then (if (ok_s_l07All p colour sign) = true then lo3 l50 m50 0 else none) else some ((m50, l50), 0))
def L_s_MovesBetween_2 (fu : Nat) (p : Int) (colour : Int) (a : Int × Int) (b : Int × Int) (c : Int × Int) (d : Int × Int) : Nat → (List Int) → Nat → Int → Option ((Nat × List Int) × Int)
  | 0, _, _, _ => none
  | f + 1, l50, m50, sign => B_s_MovesBetween_2 p colour a b c d (L_s_MovesBetween_3 fu p colour a b c d l50 m50 sign (L_s_MovesBetween_2 fu p colour a b c d f) fu) (L_s_MovesBetween_2 fu p colour a b c d f) l50 m50 sign
theorem loop_s_MovesBetween_2 (fu : Nat) (p : Int) (colour : Int) (a : Int × Int) (b : Int × Int) (c : Int × Int) (d : Int × Int) : ∀ (f : Nat) (l50 : List Int) (m50 : Nat) (sign : Int), X_s_MovesBetween_2 Tryz.prog fu p colour a b c d f l50 m50 sign = L_s_MovesBetween_2 fu p colour a b c d f l50 m50 sign := by
  intro f
  induction f with
  | zero => intros; rfl
  | succ f ih =>
    intro l50 m50 sign
    have h1 : X_s_MovesBetween_2 Tryz.prog fu p colour a b c d (f + 1) l50 m50 sign = B_s_MovesBetween_2 p colour a b c d (X_s_MovesBetween_3 Tryz.prog fu p colour a b c d l50 m50 sign (fun t => loopK (exec Tryz.prog S_s_MovesBetween 87 (fuelOf fu []) (Code.sub [1, 1, 1, 1, 1, 0, 1, 0, 0] (bodyF Tryz.prog 45))) f t (kBlock 0 (kSeq (fun zs9 => exec Tryz.prog S_s_MovesBetween 87 (fuelOf fu []) (Code.sub [1, 1, 1, 1, 1, 1] (bodyF Tryz.prog 45)) zs9 (finT Tryz.prog 45 dec_l28_6_i)) (finT Tryz.prog 45 dec_l28_6_i)))) fu) (X_s_MovesBetween_2 Tryz.prog fu p colour a b c d f) l50 m50 sign := by kernel_rfl
    have h2 : X_s_MovesBetween_2 Tryz.prog fu p colour a b c d f = L_s_MovesBetween_2 fu p colour a b c d f := by funext l50 m50 sign; exact ih l50 m50 sign
    have c3 : (X_s_MovesBetween_3 Tryz.prog fu p colour a b c d l50 m50 sign (fun t => loopK (exec Tryz.prog S_s_MovesBetween 87 (fuelOf fu []) (Code.sub [1, 1, 1, 1, 1, 0, 1, 0, 0] (bodyF Tryz.prog 45))) f t (kBlock 0 (kSeq (fun zs9 => exec Tryz.prog S_s_MovesBetween 87 (fuelOf fu []) (Code.sub [1, 1, 1, 1, 1, 1] (bodyF Tryz.prog 45)) zs9 (finT Tryz.prog 45 dec_l28_6_i)) (finT Tryz.prog 45 dec_l28_6_i)))) fu) = L_s_MovesBetween_3 fu p colour a b c d l50 m50 sign (X_s_MovesBetween_2 Tryz.prog fu p colour a b c d f) fu := by funext l50' m50' i; exact loop_s_MovesBetween_3 fu p colour a b c d l50 m50 sign (fun t => loopK (exec Tryz.prog S_s_MovesBetween 87 (fuelOf fu []) (Code.sub [1, 1, 1, 1, 1, 0, 1, 0, 0] (bodyF Tryz.prog 45))) f t (kBlock 0 (kSeq (fun zs9 => exec Tryz.prog S_s_MovesBetween 87 (fuelOf fu []) (Code.sub [1, 1, 1, 1, 1, 1] (bodyF Tryz.prog 45)) zs9 (finT Tryz.prog 45 dec_l28_6_i)) (finT Tryz.prog 45 dec_l28_6_i)))) fu l50' m50' i
    rw [h1, c3, h2]
    rfl
def X_s_MovesBetween_7 (P : Program) (fu : Nat) (p : Int) (colour : Int) (a : Int × Int) (b : Int × Int) (c : Int × Int) (d : Int × Int) (l50 : List Int) (m50 : Nat) (sign : Int) (rc6 : Tab → Option ((Nat × List Int) × Int)) (f : Nat) (l50' : List Int) (m50' : Nat) (i : Int) : Option ((Nat × List Int) × Int) := loopK (exec P S_s_MovesBetween 87 (fuelOf fu []) (Code.sub [1, 1, 1, 1, 1, 0, 1, 0, 0, 1, 0, 0, 1, 1, 0, 0] (bodyF P 45))) f (T_s_MovesBetween_7 p colour a b c d l50 m50 sign l50' m50' i) (kBlock 2 (kBlock 1 (kSeq (fun zs9 => exec P S_s_MovesBetween 87 (fuelOf fu []) (Code.sub [1, 1, 1, 1, 1, 0, 1, 0, 0, 1, 1] (bodyF P 45)) zs9 (kLoop rc6 (T_s_MovesBetween_6 p colour a b c d l50 m50 sign) (kBlock 0 (kSeq (fun zs9 => exec P S_s_MovesBetween 87 (fuelOf fu []) (Code.sub [1, 1, 1, 1, 1, 1] (bodyF P 45)) zs9 (finT P 45 dec_l28_6_i)) (finT P 45 dec_l28_6_i))))) (kLoop rc6 (T_s_MovesBetween_6 p colour a b c d l50 m50 sign) (kBlock 0 (kSeq (fun zs9 => exec P S_s_MovesBetween 87 (fuelOf fu []) (Code.sub [1, 1, 1, 1, 1, 1] (bodyF P 45)) zs9 (finT P 45 dec_l28_6_i)) (finT P 45 dec_l28_6_i)))))))
def B_s_MovesBetween_7 (p : Int) (colour : Int) (a : Int × Int) (b : Int × Int) (c : Int × Int) (d : Int × Int) (l50 : List Int) (m50 : Nat) (sign : Int) (rec6 : (List Int) → Nat → Int → Option ((Nat × List Int) × Int)) (rec7 : (List Int) → Nat → Int → Option ((Nat × List Int) × Int)) (l50' : List Int) (m50' : Nat) (i : Int) : Option ((Nat × List Int) × Int) :=
  (if (decide (i < (((s_l07All p colour sign).1 : Nat) : Int))) = true then (if (decide (0 ≤ i) && decide (i < (((s_l07All p colour sign).1 : Nat) : Int))) = true then (if (Nat.ble (i.toNat * 6 + 6) (((s_l07All p colour sign).2).length)) = true then (if (prB p) = true then (if (prB p) = true then (if (prB p) = true then (if ((s_l07Move p (((s_l07All p colour sign).2).getD (i.toNat * 6 + 0) 0, ((s_l07All p colour sign).2).getD (i.toNat * 6 + 1) 0, ((s_l07All p colour sign).2).getD (i.toNat * 6 + 2) 0, ((s_l07All p colour sign).2).getD (i.toNat * 6 + 3) 0, (s_l01Minus p c (s_l07Lead p (((s_l07All p colour sign).2).getD (i.toNat * 6 + 0) 0, ((s_l07All p colour sign).2).getD (i.toNat * 6 + 1) 0, ((s_l07All p colour sign).2).getD (i.toNat * 6 + 2) 0, ((s_l07All p colour sign).2).getD (i.toNat * 6 + 3) 0, ((s_l07All p colour sign).2).getD (i.toNat * 6 + 4) 0, ((s_l07All p colour sign).2).getD (i.toNat * 6 + 5) 0) a)).1, (s_l01Minus p c (s_l07Lead p (((s_l07All p colour sign).2).getD (i.toNat * 6 + 0) 0, ((s_l07All p colour sign).2).getD (i.toNat * 6 + 1) 0, ((s_l07All p colour sign).2).getD (i.toNat * 6 + 2) 0, ((s_l07All p colour sign).2).getD (i.toNat * 6 + 3) 0, ((s_l07All p colour sign).2).getD (i.toNat * 6 + 4) 0, ((s_l07All p colour sign).2).getD (i.toNat * 6 + 5) 0) a)).2) b) == d) = true then (if ((Fo_s_l07Put 1000000 m50' l50' (((s_l07All p colour sign).2).getD (i.toNat * 6 + 0) 0, ((s_l07All p colour sign).2).getD (i.toNat * 6 + 1) 0, ((s_l07All p colour sign).2).getD (i.toNat * 6 + 2) 0, ((s_l07All p colour sign).2).getD (i.toNat * 6 + 3) 0, (s_l01Minus p c (s_l07Lead p (((s_l07All p colour sign).2).getD (i.toNat * 6 + 0) 0, ((s_l07All p colour sign).2).getD (i.toNat * 6 + 1) 0, ((s_l07All p colour sign).2).getD (i.toNat * 6 + 2) 0, ((s_l07All p colour sign).2).getD (i.toNat * 6 + 3) 0, ((s_l07All p colour sign).2).getD (i.toNat * 6 + 4) 0, ((s_l07All p colour sign).2).getD (i.toNat * 6 + 5) 0) a)).1, (s_l01Minus p c (s_l07Lead p (((s_l07All p colour sign).2).getD (i.toNat * 6 + 0) 0, ((s_l07All p colour sign).2).getD (i.toNat * 6 + 1) 0, ((s_l07All p colour sign).2).getD (i.toNat * 6 + 2) 0, ((s_l07All p colour sign).2).getD (i.toNat * 6 + 3) 0, ((s_l07All p colour sign).2).getD (i.toNat * 6 + 4) 0, ((s_l07All p colour sign).2).getD (i.toNat * 6 + 5) 0) a)).2)).isSome) = true then rec7 ((s_l07Put m50' l50' (((s_l07All p colour sign).2).getD (i.toNat * 6 + 0) 0, ((s_l07All p colour sign).2).getD (i.toNat * 6 + 1) 0, ((s_l07All p colour sign).2).getD (i.toNat * 6 + 2) 0, ((s_l07All p colour sign).2).getD (i.toNat * 6 + 3) 0, (s_l01Minus p c (s_l07Lead p (((s_l07All p colour sign).2).getD (i.toNat * 6 + 0) 0, ((s_l07All p colour sign).2).getD (i.toNat * 6 + 1) 0, ((s_l07All p colour sign).2).getD (i.toNat * 6 + 2) 0, ((s_l07All p colour sign).2).getD (i.toNat * 6 + 3) 0, ((s_l07All p colour sign).2).getD (i.toNat * 6 + 4) 0, ((s_l07All p colour sign).2).getD (i.toNat * 6 + 5) 0) a)).1, (s_l01Minus p c (s_l07Lead p (((s_l07All p colour sign).2).getD (i.toNat * 6 + 0) 0, ((s_l07All p colour sign).2).getD (i.toNat * 6 + 1) 0, ((s_l07All p colour sign).2).getD (i.toNat * 6 + 2) 0, ((s_l07All p colour sign).2).getD (i.toNat * 6 + 3) 0, ((s_l07All p colour sign).2).getD (i.toNat * 6 + 4) 0, ((s_l07All p colour sign).2).getD (i.toNat * 6 + 5) 0) a)).2)).2) ((s_l07Put m50' l50' (((s_l07All p colour sign).2).getD (i.toNat * 6 + 0) 0, ((s_l07All p colour sign).2).getD (i.toNat * 6 + 1) 0, ((s_l07All p colour sign).2).getD (i.toNat * 6 + 2) 0, ((s_l07All p colour sign).2).getD (i.toNat * 6 + 3) 0, (s_l01Minus p c (s_l07Lead p (((s_l07All p colour sign).2).getD (i.toNat * 6 + 0) 0, ((s_l07All p colour sign).2).getD (i.toNat * 6 + 1) 0, ((s_l07All p colour sign).2).getD (i.toNat * 6 + 2) 0, ((s_l07All p colour sign).2).getD (i.toNat * 6 + 3) 0, ((s_l07All p colour sign).2).getD (i.toNat * 6 + 4) 0, ((s_l07All p colour sign).2).getD (i.toNat * 6 + 5) 0) a)).1, (s_l01Minus p c (s_l07Lead p (((s_l07All p colour sign).2).getD (i.toNat * 6 + 0) 0, ((s_l07All p colour sign).2).getD (i.toNat * 6 + 1) 0, ((s_l07All p colour sign).2).getD (i.toNat * 6 + 2) 0, ((s_l07All p colour sign).2).getD (i.toNat * 6 + 3) 0, ((s_l07All p colour sign).2).getD (i.toNat * 6 + 4) 0, ((s_l07All p colour sign).2).getD (i.toNat * 6 + 5) 0) a)).2)).1) (wI (i + 1)) else none) else rec7 l50' m50' (wI (i + 1))) else none) else none) else none) else none) else none) else rec6 l50' m50' (wI (sign + 2)))
def L_s_MovesBetween_7 (fu : Nat) (p : Int) (colour : Int) (a : Int × Int) (b : Int × Int) (c : Int × Int) (d : Int × Int) (l50 : List Int) (m50 : Nat) (sign : Int) (rec6 : (List Int) → Nat → Int → Option ((Nat × List Int) × Int)) : Nat → (List Int) → Nat → Int → Option ((Nat × List Int) × Int)
  | 0, _, _, _ => none
  | f + 1, l50', m50', i => B_s_MovesBetween_7 p colour a b c d l50 m50 sign rec6 (L_s_MovesBetween_7 fu p colour a b c d l50 m50 sign rec6 f) l50' m50' i
theorem loop_s_MovesBetween_7 (fu : Nat) (p : Int) (colour : Int) (a : Int × Int) (b : Int × Int) (c : Int × Int) (d : Int × Int) (l50 : List Int) (m50 : Nat) (sign : Int) (rc6 : Tab → Option ((Nat × List Int) × Int)) : ∀ (f : Nat) (l50' : List Int) (m50' : Nat) (i : Int), X_s_MovesBetween_7 Tryz.prog fu p colour a b c d l50 m50 sign rc6 f l50' m50' i = L_s_MovesBetween_7 fu p colour a b c d l50 m50 sign (fun l50 m50 sign => rc6 (T_s_MovesBetween_6 p colour a b c d l50 m50 sign)) f l50' m50' i := by
  intro f
  induction f with
  | zero => intros; rfl
  | succ f ih =>
    intro l50' m50' i
    have h1 : X_s_MovesBetween_7 Tryz.prog fu p colour a b c d l50 m50 sign rc6 (f + 1) l50' m50' i = B_s_MovesBetween_7 p colour a b c d l50 m50 sign (fun l50 m50 sign => rc6 (T_s_MovesBetween_6 p colour a b c d l50 m50 sign)) (X_s_MovesBetween_7 Tryz.prog fu p colour a b c d l50 m50 sign rc6 f) l50' m50' i := by kernel_rfl
    have h2 : X_s_MovesBetween_7 Tryz.prog fu p colour a b c d l50 m50 sign rc6 f = L_s_MovesBetween_7 fu p colour a b c d l50 m50 sign (fun l50 m50 sign => rc6 (T_s_MovesBetween_6 p colour a b c d l50 m50 sign)) f := by funext l50' m50' i; exact ih l50' m50' i
    rw [h1, h2]
    rfl
def X_s_MovesBetween_6 (P : Program) (fu : Nat) (p : Int) (colour : Int) (a : Int × Int) (b : Int × Int) (c : Int × Int) (d : Int × Int) (f : Nat) (l50 : List Int) (m50 : Nat) (sign : Int) : Option ((Nat × List Int) × Int) := loopK (exec P S_s_MovesBetween 87 (fuelOf fu []) (Code.sub [1, 1, 1, 1, 1, 0, 1, 0, 0] (bodyF P 45))) f (T_s_MovesBetween_6 p colour a b c d l50 m50 sign) (kBlock 0 (kSeq (fun zs9 => exec P S_s_MovesBetween 87 (fuelOf fu []) (Code.sub [1, 1, 1, 1, 1, 1] (bodyF P 45)) zs9 (finT P 45 dec_l28_6_i)) (finT P 45 dec_l28_6_i)))
def B_s_MovesBetween_6 (p : Int) (colour : Int) (a : Int × Int) (b : Int × Int) (c : Int × Int) (d : Int × Int) (lo7 : (List Int) → Nat → Int → Option ((Nat × List Int) × Int)) (rec6 : (List Int) → Nat → Int → Option ((Nat × List Int) × Int)) (l50 : List Int) (m50 : Nat) (sign : Int) : Option ((Nat × List Int) × Int) :=
  (if (decide (sign < 2)) = true then (if (ok_s_l07All p colour sign) = true then lo7 l50 m50 0 else none) else some ((m50, l50), 0))
def L_s_MovesBetween_6 (fu : Nat) (p : Int) (colour : Int) (a : Int × Int) (b : Int × Int) (c : Int × Int) (d : Int × Int) : Nat → (List Int) → Nat → Int → Option ((Nat × List Int) × Int)
  | 0, _, _, _ => none
  | f + 1, l50, m50, sign => B_s_MovesBetween_6 p colour a b c d (L_s_MovesBetween_7 fu p colour a b c d l50 m50 sign (L_s_MovesBetween_6 fu p colour a b c d f) fu) (L_s_MovesBetween_6 fu p colour a b c d f) l50 m50 sign
theorem loop_s_MovesBetween_6 (fu : Nat) (p : Int) (colour : Int) (a : Int × Int) (b : Int × Int) (c : Int × Int) (d : Int × Int) : ∀ (f : Nat) (l50 : List Int) (m50 : Nat) (sign : Int), X_s_MovesBetween_6 Tryz.prog fu p colour a b c d f l50 m50 sign = L_s_MovesBetween_6 fu p colour a b c d f l50 m50 sign := by
  intro f
  induction f with
  | zero => intros; rfl
  | succ f ih =>
    intro l50 m50 sign
    have h1 : X_s_MovesBetween_6 Tryz.prog fu p colour a b c d (f + 1) l50 m50 sign = B_s_MovesBetween_6 p colour a b c d (X_s_MovesBetween_7 Tryz.prog fu p colour a b c d l50 m50 sign (fun t => loopK (exec Tryz.prog S_s_MovesBetween 87 (fuelOf fu []) (Code.sub [1, 1, 1, 1, 1, 0, 1, 0, 0] (bodyF Tryz.prog 45))) f t (kBlock 0 (kSeq (fun zs9 => exec Tryz.prog S_s_MovesBetween 87 (fuelOf fu []) (Code.sub [1, 1, 1, 1, 1, 1] (bodyF Tryz.prog 45)) zs9 (finT Tryz.prog 45 dec_l28_6_i)) (finT Tryz.prog 45 dec_l28_6_i)))) fu) (X_s_MovesBetween_6 Tryz.prog fu p colour a b c d f) l50 m50 sign := by kernel_rfl
    have h2 : X_s_MovesBetween_6 Tryz.prog fu p colour a b c d f = L_s_MovesBetween_6 fu p colour a b c d f := by funext l50 m50 sign; exact ih l50 m50 sign
    have c7 : (X_s_MovesBetween_7 Tryz.prog fu p colour a b c d l50 m50 sign (fun t => loopK (exec Tryz.prog S_s_MovesBetween 87 (fuelOf fu []) (Code.sub [1, 1, 1, 1, 1, 0, 1, 0, 0] (bodyF Tryz.prog 45))) f t (kBlock 0 (kSeq (fun zs9 => exec Tryz.prog S_s_MovesBetween 87 (fuelOf fu []) (Code.sub [1, 1, 1, 1, 1, 1] (bodyF Tryz.prog 45)) zs9 (finT Tryz.prog 45 dec_l28_6_i)) (finT Tryz.prog 45 dec_l28_6_i)))) fu) = L_s_MovesBetween_7 fu p colour a b c d l50 m50 sign (X_s_MovesBetween_6 Tryz.prog fu p colour a b c d f) fu := by funext l50' m50' i; exact loop_s_MovesBetween_7 fu p colour a b c d l50 m50 sign (fun t => loopK (exec Tryz.prog S_s_MovesBetween 87 (fuelOf fu []) (Code.sub [1, 1, 1, 1, 1, 0, 1, 0, 0] (bodyF Tryz.prog 45))) f t (kBlock 0 (kSeq (fun zs9 => exec Tryz.prog S_s_MovesBetween 87 (fuelOf fu []) (Code.sub [1, 1, 1, 1, 1, 1] (bodyF Tryz.prog 45)) zs9 (finT Tryz.prog 45 dec_l28_6_i)) (finT Tryz.prog 45 dec_l28_6_i)))) fu l50' m50' i
    rw [h1, c7, h2]
    rfl
def G_s_MovesBetween (p : Int) (colour : Int) (a : Int × Int) (b : Int × Int) (c : Int × Int) (d : Int × Int) (lo2 : (List Int) → Nat → Int → Option ((Nat × List Int) × Int)) (lo6 : (List Int) → Nat → Int → Option ((Nat × List Int) × Int)) : Option ((Nat × List Int) × Int) :=
  (if ((s_l03Points p colour 4 [a.1, a.2, b.1, b.2, c.1, c.2, d.1, d.2]) == 0) = true then (if (prB p) = true then (if ((s_l02Quadrance p colour a b) == 0) = true then some ((0, []), 5) else (if (prB p) = true then (if ((s_l02Quadrance p colour a b) != (s_l02Quadrance p colour c d)) = true then some ((0, []), 5) else (if ((s_l03Points p colour 4 [a.1, a.2, b.1, b.2, c.1, c.2, d.1, d.2]) != 0) = true then some ((0, []), (s_l03Points p colour 4 [a.1, a.2, b.1, b.2, c.1, c.2, d.1, d.2])) else lo2 [] 0 (-1))) else none)) else none) else (if ((s_l03Points p colour 4 [a.1, a.2, b.1, b.2, c.1, c.2, d.1, d.2]) != 0) = true then some ((0, []), (s_l03Points p colour 4 [a.1, a.2, b.1, b.2, c.1, c.2, d.1, d.2])) else lo6 [] 0 (-1)))
def Fo_s_MovesBetween (fu : Nat) (p : Int) (colour : Int) (a : Int × Int) (b : Int × Int) (c : Int × Int) (d : Int × Int) : Option ((Nat × List Int) × Int) := G_s_MovesBetween p colour a b c d (L_s_MovesBetween_2 fu p colour a b c d fu) (L_s_MovesBetween_6 fu p colour a b c d fu)
theorem eqg_s_MovesBetween (fu : Nat) (p : Int) (colour : Int) (a : Int × Int) (b : Int × Int) (c : Int × Int) (d : Int × Int) : execT Tryz.prog S_s_MovesBetween 45 87 (fuelOf fu []) dec_l28_6_i [.v (.int .i64 p), .v (.int .i64 colour), .v (.agg ⟨[.int .i64 a.1, .int .i64 a.2]⟩), .v (.agg ⟨[.int .i64 b.1, .int .i64 b.2]⟩), .v (.agg ⟨[.int .i64 c.1, .int .i64 c.2]⟩), .v (.agg ⟨[.int .i64 d.1, .int .i64 d.2]⟩)] = G_s_MovesBetween p colour a b c d (L_s_MovesBetween_2 fu p colour a b c d fu) (L_s_MovesBetween_6 fu p colour a b c d fu) := by
  have h1 : execT Tryz.prog S_s_MovesBetween 45 87 (fuelOf fu []) dec_l28_6_i [.v (.int .i64 p), .v (.int .i64 colour), .v (.agg ⟨[.int .i64 a.1, .int .i64 a.2]⟩), .v (.agg ⟨[.int .i64 b.1, .int .i64 b.2]⟩), .v (.agg ⟨[.int .i64 c.1, .int .i64 c.2]⟩), .v (.agg ⟨[.int .i64 d.1, .int .i64 d.2]⟩)] = G_s_MovesBetween p colour a b c d (X_s_MovesBetween_2 Tryz.prog fu p colour a b c d fu) (X_s_MovesBetween_6 Tryz.prog fu p colour a b c d fu) := by kernel_rfl
  have c2 : X_s_MovesBetween_2 Tryz.prog fu p colour a b c d fu = L_s_MovesBetween_2 fu p colour a b c d fu := by funext l50 m50 sign; exact loop_s_MovesBetween_2 fu p colour a b c d fu l50 m50 sign
  have c6 : X_s_MovesBetween_6 Tryz.prog fu p colour a b c d fu = L_s_MovesBetween_6 fu p colour a b c d fu := by funext l50 m50 sign; exact loop_s_MovesBetween_6 fu p colour a b c d fu l50 m50 sign
  rw [h1, c2, c6]
theorem eq_s_MovesBetween (fu : Nat) (p : Int) (colour : Int) (a : Int × Int) (b : Int × Int) (c : Int × Int) (d : Int × Int) : execT Tryz.prog S_s_MovesBetween 45 87 (fuelOf fu []) dec_l28_6_i [.v (.int .i64 p), .v (.int .i64 colour), .v (.agg ⟨[.int .i64 a.1, .int .i64 a.2]⟩), .v (.agg ⟨[.int .i64 b.1, .int .i64 b.2]⟩), .v (.agg ⟨[.int .i64 c.1, .int .i64 c.2]⟩), .v (.agg ⟨[.int .i64 d.1, .int .i64 d.2]⟩)] = Fo_s_MovesBetween fu p colour a b c d := eqg_s_MovesBetween fu p colour a b c d
theorem mb3_go {p k : Int} (hp : prB p = true) (a b c d : Int × Int) (l50 : List Int) (m50 : Nat) (sign : Int) (rec2 : List Int → Nat → Int → Option ((Nat × List Int) × Int)) {V : List P6o} (hv : s_l07All p k sign = (V.length, flat6 V)) (hV : V.length < 400) :
    ∀ (Q D : List P6o) (A : List P6o) (F : Nat), V = D ++ Q → A.length + Q.length < 900 → (A ++ Q).Pairwise (fun m n => key6 m ≠ key6 n) → Q.length < F → L_s_MovesBetween_3 1000000 p k a b c d l50 m50 sign rec2 F (flat6 (sort6 A)) (sort6 A).length ((D.length : Nat) : Int) =
      rec2 (flat6 (sort6 (A ++ ((Q.map (aboutC p a c)).filter fun m => s_l07Move p m b == d)))) (sort6 (A ++ ((Q.map (aboutC p a c)).filter fun m => s_l07Move p m b == d))).length (wI (sign + 2))
  | Q, D, A, 0, _, _, _, h => absurd h (Nat.not_lt_zero _)
  | [], D, A, F + 1, e, _, _, _ => by
    obtain rfl : V = D := by simpa using e
    show B_s_MovesBetween_3 p k a b c d l50 m50 sign rec2 (L_s_MovesBetween_3 1000000 p k a b c d l50 m50 sign rec2 F) _ _ _ = _
    unfold B_s_MovesBetween_3
    rw [if_neg (by rw [hv]; simp)]
    simp only [List.map_nil, List.filter_nil, List.append_nil]
  | m :: Q, D, A, F + 1, e, hn, hk, hF => by
    have e2 : V = (D ++ [m]) ++ Q := by rw [e]; simp
    have hlt : D.length < V.length := by rw [e]; simp
    have hrow := flat6_row V D.length hlt
    have hg : V[D.length] = m := by simp only [e]; simp
    rw [hg] at hrow
    have hfl := flat6_len V
    have hA : (sort6 A).length < 1000 := by rw [sort6_len]; omega
    have hx : ∀ y ∈ sort6 A, key6 y ≠ key6 (aboutC p a c m) := by
      intro y hy
      rw [aboutC_key]
      rw [List.pairwise_append] at hk
      exact hk.2.2 y (sort6_mem hy) m (by simp)
    have hw : wI (((D.length : Nat) : Int) + 1) = (((D ++ [m]).length : Nat) : Int) := by
      rw [wI_eq, List.length_append]
      unfold wrap64
      simp
      omega
    have r0 := congrArg (fun z : P6o => z.1) hrow; have r1 := congrArg (fun z : P6o => z.2.1) hrow; have r2 := congrArg (fun z : P6o => z.2.2.1) hrow
    have r3 := congrArg (fun z : P6o => z.2.2.2.1) hrow; have r4 := congrArg (fun z : P6o => z.2.2.2.2.1) hrow; have r5 := congrArg (fun z : P6o => z.2.2.2.2.2) hrow
    dsimp only at r0 r1 r2 r3 r4 r5
    show B_s_MovesBetween_3 p k a b c d l50 m50 sign rec2 (L_s_MovesBetween_3 1000000 p k a b c d l50 m50 sign rec2 F) _ _ _ = _
    unfold B_s_MovesBetween_3
    simp only [hv]
    rw [if_pos (by simpa using hlt), if_pos (by simpa using hlt), if_pos (by rw [Int.toNat_natCast]; exact Nat.ble_eq_true_of_le (by omega)), Int.toNat_natCast, r0, r1, r2, r3, r4, r5, if_pos hp, if_pos hp, if_pos hp]
    show (if (s_l07Move p (aboutC p a c m) b == d) = true then (if (Fo_s_l07Put 1000000 _ _ (aboutC p a c m)).isSome = true then L_s_MovesBetween_3 1000000 p k a b c d l50 m50 sign rec2 F (s_l07Put _ _ (aboutC p a c m)).2 (s_l07Put _ _ (aboutC p a c m)).1 (wI (((D.length : Nat) : Int) + 1)) else none) else L_s_MovesBetween_3 1000000 p k a b c d l50 m50 sign rec2 F _ _ (wI (((D.length : Nat) : Int) + 1))) = _
    rw [hw, List.map_cons]
    by_cases h : (s_l07Move p (aboutC p a c m) b == d) = true
    · have ih := mb3_go hp a b c d l50 m50 sign rec2 hv hV Q (D ++ [m]) (A ++ [aboutC p a c m]) F e2 (by simp at hn ⊢; omega) (by
        rw [List.append_assoc, List.pairwise_append, List.singleton_append, List.pairwise_cons]
        rw [List.pairwise_append, List.pairwise_cons] at hk
        refine ⟨hk.1, ⟨fun z hz => hk.2.1.1 z hz, hk.2.1.2⟩, fun y hy z hz => ?_⟩
        rcases List.mem_cons.1 hz with rfl | hz
        · exact hk.2.2 y hy m (by simp)
        · exact hk.2.2 y hy z (by simp [hz])) (by simpa using hF)
      rw [if_pos h, if_pos (by rw [put_is _ _ hA hx]; rfl), put_val _ _ hA hx]
      dsimp only
      rw [sort6_snoc, show (sort6 A).length + 1 = (sort6 (A ++ [aboutC p a c m])).length by rw [sort6_len, sort6_len, List.length_append]; rfl, ih, List.filter_cons_of_pos (by exact h), List.append_assoc]
      rfl
    · have ih := mb3_go hp a b c d l50 m50 sign rec2 hv hV Q (D ++ [m]) A F e2 (by simp at hn ⊢; omega) (by
        rw [List.pairwise_append, List.pairwise_cons] at hk
        rw [List.pairwise_append]
        exact ⟨hk.1, hk.2.1.2, fun y hy z hz => hk.2.2 y hy z (by simp [hz])⟩) (by simpa using hF)
      rw [if_neg h, ih, List.filter_cons_of_neg (by exact h)]
theorem mb2_step (p k : Int) (a b c d : Int × Int) (F : Nat) (l50 : List Int) (m50 : Nat) (sign : Int) (hs : sign < 2) (ho : ok_s_l07All p k sign = true) : L_s_MovesBetween_2 1000000 p k a b c d (F + 1) l50 m50 sign = L_s_MovesBetween_3 1000000 p k a b c d l50 m50 sign (L_s_MovesBetween_2 1000000 p k a b c d F) 1000000 l50 m50 0 := by
  show B_s_MovesBetween_2 p k a b c d (L_s_MovesBetween_3 1000000 p k a b c d l50 m50 sign (L_s_MovesBetween_2 1000000 p k a b c d F) 1000000) (L_s_MovesBetween_2 1000000 p k a b c d F) l50 m50 sign = _
  unfold B_s_MovesBetween_2
  rw [if_pos (by simpa using hs), if_pos ho]
theorem mb2_end (p k : Int) (a b c d : Int × Int) (F : Nat) (l50 : List Int) (m50 : Nat) : L_s_MovesBetween_2 1000000 p k a b c d (F + 1) l50 m50 3 = some ((m50, l50), 0) := by
  show B_s_MovesBetween_2 p k a b c d _ (L_s_MovesBetween_2 1000000 p k a b c d F) l50 m50 3 = _
  unfold B_s_MovesBetween_2
  rw [if_neg (by decide)]
theorem mb_loop {p k : Int} (hp : prB p = true) {K : List P4o} {U V : List P6o} (F : Facts p k K U V) (a b c d : Int × Int) : L_s_MovesBetween_2 1000000 p k a b c d 1000000 [] 0 (-1) =
    some (((sort6 (((V ++ U).map (aboutC p a c)).filter fun m => s_l07Move p m b == d)).length, flat6 (sort6 (((V ++ U).map (aboutC p a c)).filter fun m => s_l07Move p m b == d))), 0) := by
  have hU : U.length < 400 := by have := F.kn; have := F.ku; have := F.uv; omega
  have hV : V.length < 400 := by have := F.uv; omega
  have hv := s_l07All_of F.v
  have hu := s_l07All_of F.u
  have hd := List.pairwise_append.1 F.vd
  have g1 := mb3_go hp a b c d [] 0 (-1) (L_s_MovesBetween_2 1000000 p k a b c d 999999) hv hV V [] [] 1000000 rfl (by simp; omega) (by simpa using hd.1) (by omega)
  have hfl : ((V.map (aboutC p a c)).filter fun m => s_l07Move p m b == d).length ≤ V.length := Nat.le_trans (List.length_filter_le _ _) (by rw [List.length_map]; exact Nat.le_refl _)
  have hpw : (((V.map (aboutC p a c)).filter fun m => s_l07Move p m b == d) ++ U).Pairwise (fun m n => key6 m ≠ key6 n) := by
    have hm : (V.map (aboutC p a c)).Pairwise (fun m n => key6 m ≠ key6 n) := (List.pairwise_map (f := aboutC p a c)).2 hd.1
    refine List.pairwise_append.2 ⟨hm.filter _, hd.2.1, fun y hy z hz => ?_⟩
    obtain ⟨w, hw, rfl⟩ := List.mem_map.1 (List.mem_filter.1 hy).1
    exact hd.2.2 w hw z hz
  rw [List.map_append, List.filter_append]
  generalize hX : ((V.map (aboutC p a c)).filter fun m => s_l07Move p m b == d) = X at *
  have g2 := mb3_go hp a b c d (flat6 (sort6 X)) (sort6 X).length 1 (L_s_MovesBetween_2 1000000 p k a b c d 999998) hu hU U [] X 1000000 rfl (by omega) hpw (by omega)
  rw [show (1000000 : Nat) = 999999 + 1 from rfl, mb2_step p k a b c d 999999 [] 0 (-1) (by decide) (ok_s_l07All_of F.v)]
  rw [List.nil_append, show wI (-1 + 2) = 1 from (by rw [wI_eq]; unfold wrap64; omega)] at g1
  refine Eq.trans g1 ?_
  rw [show (999999 : Nat) = 999998 + 1 from rfl, mb2_step p k a b c d 999998 _ _ 1 (by decide) (ok_s_l07All_of F.u)]
  refine Eq.trans g2 ?_
  rw [show wI (1 + 2) = 3 from (by rw [wI_eq]; unfold wrap64; omega), show (999998 : Nat) = 999997 + 1 from rfl, mb2_end]
theorem between_code (p c : Int) (a b d e : P2) : s_l03Points p c 4 [a.1, a.2, b.1, b.2, d.1, d.2, e.1, e.2] = i_asked p true (i_MovesBetween_c1 c p a b d e) := by
  have e : rows2 4 [a.1, a.2, b.1, b.2, d.1, d.2, e.1, e.2] = [a, b, d, e] := rfl
  unfold s_l03Points i_MovesBetween_c1
  rw [e, pointcode p true, in_colour]
  cases hf : i_IsField p
  · simp [i_asked, hf]
  · cases hc : i_isColour c <;> simp [i_asked, hf]
theorem SBetween_at {p k : Int} {a b d e : P2} (h : i_asked p true (i_MovesBetween_c1 k p a b d e) = 0) (hq : i_quadrance p k a b ≠ 0) (hs : i_quadrance p k a b = i_quadrance p k d e) {K : List P4o} {U V : List P6o} (F : Facts p k K U V) :
    Fo_s_MovesBetween 1000000 p k a b d e = some (((sort6 (((V ++ U).map (aboutC p a d)).filter fun m => s_l07Move p m b == e)).length, flat6 (sort6 (((V ++ U).map (aboutC p a d)).filter fun m => s_l07Move p m b == e))), 0) := by
  obtain ⟨hf, hc, ha, hb, hd, he⟩ := between_zero h
  have hp := Pr_prB (i_IsField_ok hf)
  unfold Fo_s_MovesBetween G_s_MovesBetween
  rw [between_code, h, quad_same hf hc ha hb, quad_same hf hc hd he, if_pos (by decide), if_pos hp, if_neg (by simpa using hq), if_pos hp, if_neg (by simpa using hs), if_neg (by decide)]
  exact mb_loop hp F a b d e
theorem SBetween_low {p k : Int} {a b d e : P2} (h : i_asked p true (i_MovesBetween_c1 k p a b d e) ≠ 0) : Fo_s_MovesBetween 1000000 p k a b d e = some ((0, []), i_asked p true (i_MovesBetween_c1 k p a b d e)) := by
  unfold Fo_s_MovesBetween G_s_MovesBetween
  rw [between_code, if_neg (by simpa using h), if_pos (bne_iff_ne.2 h)]
theorem SBetween_five {p k : Int} {a b d e : P2} (h : i_asked p true (i_MovesBetween_c1 k p a b d e) = 0) (hq : i_quadrance p k a b = 0 ∨ i_quadrance p k a b ≠ i_quadrance p k d e) : Fo_s_MovesBetween 1000000 p k a b d e = some ((0, []), 5) := by
  obtain ⟨hf, hc, ha, hb, hd, he⟩ := between_zero h
  have hp := Pr_prB (i_IsField_ok hf)
  unfold Fo_s_MovesBetween G_s_MovesBetween
  rw [between_code, h, quad_same hf hc ha hb, quad_same hf hc hd he, if_pos (by decide), if_pos hp]
  by_cases h0 : i_quadrance p k a b = 0
  · rw [if_pos (by rw [h0]; rfl)]
  · rw [if_neg (by simpa using h0), if_pos hp, if_pos (by rcases hq with g | g; exact absurd g h0; exact bne_iff_ne.2 g)]
theorem SBetween_ok (p k : Int) (a b d e : P2) : ∃ r, Fo_s_MovesBetween 1000000 p k a b d e = some r := by
  by_cases h : i_asked p true (i_MovesBetween_c1 k p a b d e) = 0
  · by_cases hq : i_quadrance p k a b = 0 ∨ i_quadrance p k a b ≠ i_quadrance p k d e
    · exact ⟨_, SBetween_five h hq⟩
    · obtain ⟨K, U, V, F⟩ := facts_all (between_zero h).1 (between_zero h).2.1
      exact ⟨_, SBetween_at h (fun e => hq (Or.inl e)) (Decidable.byContradiction fun e => hq (Or.inr e)) F⟩
  · exact ⟨_, SBetween_low h⟩

def s_MovesBetween : Int → Int → Int × Int → Int × Int → Int × Int → Int × Int → (Nat × List Int) × Int := shut fun p k a b c d => (Fo_s_MovesBetween 1000000 p k a b c d).getD ((0, []), 0)
theorem s_MovesBetween_of {p k : Int} {a b c d : Int × Int} {r : (Nat × List Int) × Int} (e : Fo_s_MovesBetween 1000000 p k a b c d = some r) : s_MovesBetween p k a b c d = r := by
  unfold s_MovesBetween
  rw [shut_eq, e]
  rfl
theorem tot_s_MovesBetween (p : Int) (colour : Int) (a : Int × Int) (b : Int × Int) (c : Int × Int) (d : Int × Int) : Fo_s_MovesBetween 1000000 p colour a b c d = some (s_MovesBetween p colour a b c d) := by
  obtain ⟨r, h⟩ := SBetween_ok p colour a b c d
  rw [s_MovesBetween_of h]
  exact h
def run_s_MovesBetween : List PV → Option (Bool × List TR)
  | [.v (.int .i64 p), .v (.int .i64 colour), .v (.agg ⟨[.int .i64 a0, .int .i64 a1]⟩), .v (.agg ⟨[.int .i64 b0, .int .i64 b1]⟩), .v (.agg ⟨[.int .i64 c0, .int .i64 c1]⟩), .v (.agg ⟨[.int .i64 d0, .int .i64 d1]⟩)] => some (true, enc_l28_6_i (s_MovesBetween p colour (a0, a1) (b0, b1) (c0, c1) (d0, d1)))
  | _ => none
theorem sound_s_MovesBetween : Sound Tryz.prog 45 run_s_MovesBetween := by
  refine sound_of de_l28_6_i SO_s_MovesBetween (by kernel_rfl) Tryz.func45 Tryz.ntmps45 rfl (by kernel_rfl) ?_
  intro W pvs avs rs hargs hrun
  unfold run_s_MovesBetween at hrun
  split at hrun
  · simp only [Option.some.injEq, Prod.mk.injEq] at hrun
    obtain ⟨hp, rfl⟩ := hrun
    rename_i p colour a0 a1 b0 b1 c0 c1 d0 d1
    exact ⟨_, _, _, hargs, rfl, (eq_s_MovesBetween _ p colour (a0, a1) (b0, b1) (c0, c1) (d0, d1)).trans (tot_s_MovesBetween p colour (a0, a1) (b0, b1) (c0, c1) (d0, d1))⟩
  · cases hrun


end

end Go.Proofs.YtoblkbpejfojjaaGreatDoor
