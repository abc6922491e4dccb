import Derived.Test.YtpopgdmnajngjaaFh
import Derived.Test.YtpopgdmnajngjaaQm
import Derived.Test.YtpopgdmnajngjaaQn
import Derived.Test.YtpopgdmnajngjaaP0
import Derived.Test.YtpopgdmnajngjaaP1
import Derived.Test.YtpopgdmnajngjaaP2
import Derived.Test.YtpopgdmnajngjaaP3
import Derived.Test.YtpopgdmnajngjaaP4
import Derived.Test.YtpopgdmnajngjaaProg
set_option linter.unusedSimpArgs false
set_option linter.unusedVariables false
namespace Go.Proofs.Ytpopgdmnajngjaa
open Go.RowKit
noncomputable section
abbrev k4_0 (coden : Nat) (codel : List Int) : Int × (Int × Int) × (Int × Int) × Int × Int := (s_DrawOmegaPoints coden codel)
abbrev k4_1 (coden : Nat) (codel : List Int) : (Nat × List Int) × Int := (i_OmegaPoints ((k4_0 coden codel).1) ((k4_0 coden codel).2.1) ((k4_0 coden codel).2.2.1) ((k4_0 coden codel).2.2.2))
abbrev k4_2 (coden : Nat) (codel : List Int) : (Nat × List Int) × Int := (s_OmegaPoints ((k4_0 coden codel).1) ((k4_0 coden codel).2.1) ((k4_0 coden codel).2.2.1) ((k4_0 coden codel).2.2.2))
abbrev k4_3 (coden : Nat) (codel : List Int) : Bool := (l_points9 (((k4_1 coden codel).1).1) (((k4_1 coden codel).1).2) (((k4_2 coden codel).1).1) (((k4_2 coden codel).1).2))
abbrev k4_4 (coden : Nat) (codel : List Int) : (Nat × List Int) × Int := (i_ThreeCircumcentres ((k4_0 coden codel).1) ((k4_0 coden codel).2.1) ((k4_0 coden codel).2.2.1) ((k4_0 coden codel).2.2.2))
abbrev k4_5 (coden : Nat) (codel : List Int) : (Nat × List Int) × Int := (s_ThreeCircumcentres ((k4_0 coden codel).1) ((k4_0 coden codel).2.1) ((k4_0 coden codel).2.2.1) ((k4_0 coden codel).2.2.2))
abbrev k4_6 (coden : Nat) (codel : List Int) : Bool := (l_points9 (((k4_4 coden codel).1).1) (((k4_4 coden codel).1).2) (((k4_5 coden codel).1).1) (((k4_5 coden codel).1).2))
abbrev k4_7 (coden : Nat) (codel : List Int) : (Nat × List Int) × Int := (i_ThreeEulerLines ((k4_0 coden codel).1) ((k4_0 coden codel).2.1) ((k4_0 coden codel).2.2.1) ((k4_0 coden codel).2.2.2))
abbrev k4_8 (coden : Nat) (codel : List Int) : (Nat × List Int) × Int := (s_ThreeEulerLines ((k4_0 coden codel).1) ((k4_0 coden codel).2.1) ((k4_0 coden codel).2.2.1) ((k4_0 coden codel).2.2.2))
abbrev k4_9 (coden : Nat) (codel : List Int) : Bool := (l_lines9 (((k4_7 coden codel).1).1) (((k4_7 coden codel).1).2) (((k4_8 coden codel).1).1) (((k4_8 coden codel).1).2))
abbrev k4_10 (coden : Nat) (codel : List Int) : Int × Int := (i_OmegaDouble ((k4_0 coden codel).1) ((k4_0 coden codel).2.1) ((k4_0 coden codel).2.2.1) ((k4_0 coden codel).2.2.2))
abbrev k4_11 (coden : Nat) (codel : List Int) : Int × Int := (s_OmegaDouble ((k4_0 coden codel).1) ((k4_0 coden codel).2.1) ((k4_0 coden codel).2.2.1) ((k4_0 coden codel).2.2.2))
abbrev k4_12 (coden : Nat) (codel : List Int) : Int × (Int × Int) × Int × Int := (s_DrawThreeQuadrances coden codel)
abbrev k4_13 (coden : Nat) (codel : List Int) : (Nat × List Int) × Int := (i_ThreeQuadrances ((k4_12 coden codel).1) ((k4_12 coden codel).2.1) ((k4_12 coden codel).2.2))
abbrev k4_14 (coden : Nat) (codel : List Int) : (Nat × List Int) × Int := (s_ThreeQuadrances ((k4_12 coden codel).1) ((k4_12 coden codel).2.1) ((k4_12 coden codel).2.2))
abbrev k4_15 (coden : Nat) (codel : List Int) : Bool := (l_likeInts (((k4_13 coden codel).1).1) (((k4_13 coden codel).1).2) (((k4_14 coden codel).1).1) (((k4_14 coden codel).1).2))
abbrev k4_16 (coden : Nat) (codel : List Int) : (Int × Int) × Int := (i_MidpointOf ((k4_0 coden codel).1) ((((k4_1 coden codel).1).2).getD 2 0, (((k4_1 coden codel).1).2).getD 3 0) ((((k4_1 coden codel).1).2).getD 4 0, (((k4_1 coden codel).1).2).getD 5 0))
abbrev k4_17 (coden : Nat) (codel : List Int) : (Int × Int) × Int := (i_MidpointOf ((k4_0 coden codel).1) ((((k4_1 coden codel).1).2).getD 4 0, (((k4_1 coden codel).1).2).getD 5 0) ((((k4_1 coden codel).1).2).getD 0 0, (((k4_1 coden codel).1).2).getD 1 0))
abbrev k4_18 (coden : Nat) (codel : List Int) : (Int × Int) × Int := (i_MidpointOf ((k4_0 coden codel).1) ((((k4_1 coden codel).1).2).getD 0 0, (((k4_1 coden codel).1).2).getD 1 0) ((((k4_1 coden codel).1).2).getD 2 0, (((k4_1 coden codel).1).2).getD 3 0))
abbrev k4_19 (coden : Nat) (codel : List Int) : (Int × Int) × Int := (i_CentroidOf ((k4_0 coden codel).1) ((k4_0 coden codel).2.1) ((k4_0 coden codel).2.2.1) ((k4_0 coden codel).2.2.2))
abbrev k4_20 (coden : Nat) (codel : List Int) : Bool × Int := (i_IsOnLine ((k4_0 coden codel).1) ((k4_19 coden codel).1) ((((k4_7 coden codel).1).2).getD 0 0, (((k4_7 coden codel).1).2).getD 1 0, (((k4_7 coden codel).1).2).getD 2 0))
abbrev k4_21 (coden : Nat) (codel : List Int) : (Int × Int) × Int := (i_CentroidOf ((k4_0 coden codel).1) ((((k4_1 coden codel).1).2).getD 0 0, (((k4_1 coden codel).1).2).getD 1 0) ((((k4_1 coden codel).1).2).getD 2 0, (((k4_1 coden codel).1).2).getD 3 0) ((((k4_1 coden codel).1).2).getD 4 0, (((k4_1 coden codel).1).2).getD 5 0))
def S_l_FnColours : Sums := ⟨tblS [(5, run_l_big), (26, run_s_DrawOmegaPoints), (27, run_i_OmegaPoints), (28, run_s_OmegaPoints), (13, run_l_points9), (29, run_i_ThreeCircumcentres), (30, run_s_ThreeCircumcentres), (31, run_i_ThreeEulerLines), (32, run_s_ThreeEulerLines), (33, run_l_lines9), (34, run_i_OmegaDouble), (35, run_s_OmegaDouble), (36, run_s_DrawThreeQuadrances), (37, run_i_ThreeQuadrances), (38, run_s_ThreeQuadrances), (9, run_l_likeInts), (39, run_i_MidpointOf), (40, run_i_CentroidOf), (41, run_i_IsOnLine)], tblM []⟩
theorem SO_l_FnColours : SumsOK Try.prog S_l_FnColours := ⟨tblS_ok ⟨⟨Try.call5, sound_l_big⟩, ⟨Try.call26, sound_s_DrawOmegaPoints⟩, ⟨Try.call27, sound_i_OmegaPoints⟩, ⟨Try.call28, sound_s_OmegaPoints⟩, ⟨Try.call13, sound_l_points9⟩, ⟨Try.call29, sound_i_ThreeCircumcentres⟩, ⟨Try.call30, sound_s_ThreeCircumcentres⟩, ⟨Try.call31, sound_i_ThreeEulerLines⟩, ⟨Try.call32, sound_s_ThreeEulerLines⟩, ⟨Try.call33, sound_l_lines9⟩, ⟨Try.call34, sound_i_OmegaDouble⟩, ⟨Try.call35, sound_s_OmegaDouble⟩, ⟨Try.call36, sound_s_DrawThreeQuadrances⟩, ⟨Try.call37, sound_i_ThreeQuadrances⟩, ⟨Try.call38, sound_s_ThreeQuadrances⟩, ⟨Try.call9, sound_l_likeInts⟩, ⟨Try.call39, sound_i_MidpointOf⟩, ⟨Try.call40, sound_i_CentroidOf⟩, ⟨Try.call41, sound_i_IsOnLine⟩, True.intro⟩, tblM_ok True.intro⟩
def T_l_FnColours_0 (coden : Nat) (codel : List Int) (i : Int) : Tab := ⟨[.row 0, .junk, .val (.bool false), .val (.int .i64 ((k4_0 coden codel).1)), .ptr 16 0, .ptr 20 0, .ptr 24 0, .row 216, .val (.int .i64 ((k4_1 coden codel).2)), .row 248, .val (.int .i64 ((k4_2 coden codel).2)), .row 316, .val (.int .i64 ((k4_4 coden codel).2)), .row 348, .val (.int .i64 ((k4_5 coden codel).2)), .row 416, .val (.int .i64 ((k4_7 coden codel).2)), .row 448, .val (.int .i64 ((k4_8 coden codel).2)), .val (.int .i64 ((k4_10 coden codel).1)), .val (.int .i64 ((k4_10 coden codel).2)), .val (.int .i64 ((k4_11 coden codel).1)), .val (.int .i64 ((k4_11 coden codel).2)), .val (.int .i64 ((k4_12 coden codel).1)), .ptr 96 0, .ptr 100 0, .row 632, .val (.int .i64 ((k4_13 coden codel).2)), .row 660, .val (.int .i64 ((k4_14 coden codel).2)), .val (.int .i64 3), .junk, .junk, .ptr 132 0, .val (.int .i64 ((k4_19 coden codel).2)), .val (.int .i64 i), .junk, .junk, .junk, .junk, .row 0, .val (.bool (l_big coden codel)), .junk, .row 0, .junk, .val (.int .i64 ((k4_0 coden codel).1)), .val (.agg ⟨[.int .i64 (((k4_0 coden codel).2.1).1), .int .i64 (((k4_0 coden codel).2.1).2)]⟩), .val (.agg ⟨[.int .i64 (((k4_0 coden codel).2.2.1).1), .int .i64 (((k4_0 coden codel).2.2.1).2)]⟩), .val (.agg ⟨[.int .i64 (((k4_0 coden codel).2.2.2).1), .int .i64 (((k4_0 coden codel).2.2.2).2)]⟩), .junk, .val (.int .i64 ((k4_0 coden codel).1)), .val (.agg ⟨[.int .i64 (((k4_0 coden codel).2.1).1), .int .i64 (((k4_0 coden codel).2.1).2)]⟩), .val (.agg ⟨[.int .i64 (((k4_0 coden codel).2.2.1).1), .int .i64 (((k4_0 coden codel).2.2.1).2)]⟩), .val (.agg ⟨[.int .i64 (((k4_0 coden codel).2.2.2).1), .int .i64 (((k4_0 coden codel).2.2.2).2)]⟩), .junk, .row 216, .val (.int .i64 ((k4_1 coden codel).2)), .junk, .val (.int .i64 ((k4_0 coden codel).1)), .val (.agg ⟨[.int .i64 (((k4_0 coden codel).2.1).1), .int .i64 (((k4_0 coden codel).2.1).2)]⟩), .val (.agg ⟨[.int .i64 (((k4_0 coden codel).2.2.1).1), .int .i64 (((k4_0 coden codel).2.2.1).2)]⟩), .val (.agg ⟨[.int .i64 (((k4_0 coden codel).2.2.2).1), .int .i64 (((k4_0 coden codel).2.2.2).2)]⟩), .junk, .row 248, .val (.int .i64 ((k4_2 coden codel).2)), .val (.int .i64 ((k4_1 coden codel).2)), .val (.int .i64 ((k4_2 coden codel).2)), .val (.bool (((k4_1 coden codel).2) != ((k4_2 coden codel).2))), .val (.bool false), .row 216, .row 248, .val (.bool (k4_3 coden codel)), .val (.bool (!(k4_3 coden codel))), .val (.bool (!(k4_3 coden codel))), .junk, .val (.int .i64 ((k4_0 coden codel).1)), .val (.agg ⟨[.int .i64 (((k4_0 coden codel).2.1).1), .int .i64 (((k4_0 coden codel).2.1).2)]⟩), .val (.agg ⟨[.int .i64 (((k4_0 coden codel).2.2.1).1), .int .i64 (((k4_0 coden codel).2.2.1).2)]⟩), .val (.agg ⟨[.int .i64 (((k4_0 coden codel).2.2.2).1), .int .i64 (((k4_0 coden codel).2.2.2).2)]⟩), .junk, .row 316, .val (.int .i64 ((k4_4 coden codel).2)), .junk, .val (.int .i64 ((k4_0 coden codel).1)), .val (.agg ⟨[.int .i64 (((k4_0 coden codel).2.1).1), .int .i64 (((k4_0 coden codel).2.1).2)]⟩), .val (.agg ⟨[.int .i64 (((k4_0 coden codel).2.2.1).1), .int .i64 (((k4_0 coden codel).2.2.1).2)]⟩), .val (.agg ⟨[.int .i64 (((k4_0 coden codel).2.2.2).1), .int .i64 (((k4_0 coden codel).2.2.2).2)]⟩), .junk, .row 348, .val (.int .i64 ((k4_5 coden codel).2)), .val (.int .i64 ((k4_4 coden codel).2)), .val (.int .i64 ((k4_5 coden codel).2)), .val (.bool (((k4_4 coden codel).2) != ((k4_5 coden codel).2))), .val (.bool false), .row 316, .row 348, .val (.bool (k4_6 coden codel)), .val (.bool (!(k4_6 coden codel))), .val (.bool (!(k4_6 coden codel))), .junk, .val (.int .i64 ((k4_0 coden codel).1)), .val (.agg ⟨[.int .i64 (((k4_0 coden codel).2.1).1), .int .i64 (((k4_0 coden codel).2.1).2)]⟩), .val (.agg ⟨[.int .i64 (((k4_0 coden codel).2.2.1).1), .int .i64 (((k4_0 coden codel).2.2.1).2)]⟩), .val (.agg ⟨[.int .i64 (((k4_0 coden codel).2.2.2).1), .int .i64 (((k4_0 coden codel).2.2.2).2)]⟩), .junk, .row 416, .val (.int .i64 ((k4_7 coden codel).2)), .junk, .val (.int .i64 ((k4_0 coden codel).1)), .val (.agg ⟨[.int .i64 (((k4_0 coden codel).2.1).1), .int .i64 (((k4_0 coden codel).2.1).2)]⟩), .val (.agg ⟨[.int .i64 (((k4_0 coden codel).2.2.1).1), .int .i64 (((k4_0 coden codel).2.2.1).2)]⟩), .val (.agg ⟨[.int .i64 (((k4_0 coden codel).2.2.2).1), .int .i64 (((k4_0 coden codel).2.2.2).2)]⟩), .junk, .row 448, .val (.int .i64 ((k4_8 coden codel).2)), .val (.int .i64 ((k4_7 coden codel).2)), .val (.int .i64 ((k4_8 coden codel).2)), .val (.bool (((k4_7 coden codel).2) != ((k4_8 coden codel).2))), .val (.bool false), .row 416, .row 448, .val (.bool (k4_9 coden codel)), .val (.bool (!(k4_9 coden codel))), .val (.bool (!(k4_9 coden codel))), .junk, .val (.int .i64 ((k4_0 coden codel).1)), .val (.agg ⟨[.int .i64 (((k4_0 coden codel).2.1).1), .int .i64 (((k4_0 coden codel).2.1).2)]⟩), .val (.agg ⟨[.int .i64 (((k4_0 coden codel).2.2.1).1), .int .i64 (((k4_0 coden codel).2.2.1).2)]⟩), .val (.agg ⟨[.int .i64 (((k4_0 coden codel).2.2.2).1), .int .i64 (((k4_0 coden codel).2.2.2).2)]⟩), .junk, .val (.int .i64 ((k4_10 coden codel).1)), .val (.int .i64 ((k4_10 coden codel).2)), .junk, .val (.int .i64 ((k4_0 coden codel).1)), .val (.agg ⟨[.int .i64 (((k4_0 coden codel).2.1).1), .int .i64 (((k4_0 coden codel).2.1).2)]⟩), .val (.agg ⟨[.int .i64 (((k4_0 coden codel).2.2.1).1), .int .i64 (((k4_0 coden codel).2.2.1).2)]⟩), .val (.agg ⟨[.int .i64 (((k4_0 coden codel).2.2.2).1), .int .i64 (((k4_0 coden codel).2.2.2).2)]⟩), .junk, .val (.int .i64 ((k4_11 coden codel).1)), .val (.int .i64 ((k4_11 coden codel).2)), .val (.int .i64 ((k4_10 coden codel).2)), .val (.int .i64 ((k4_11 coden codel).2)), .val (.bool (((k4_10 coden codel).2) != ((k4_11 coden codel).2))), .val (.bool false), .val (.int .i64 ((k4_10 coden codel).1)), .val (.int .i64 ((k4_11 coden codel).1)), .val (.bool (((k4_10 coden codel).1) != ((k4_11 coden codel).1))), .val (.bool (((k4_10 coden codel).1) != ((k4_11 coden codel).1))), .junk, .row 0, .junk, .val (.int .i64 ((k4_12 coden codel).1)), .val (.agg ⟨[.int .i64 (((k4_12 coden codel).2.1).1), .int .i64 (((k4_12 coden codel).2.1).2)]⟩), .val (.agg ⟨[.int .i64 (((k4_12 coden codel).2.2).1), .int .i64 (((k4_12 coden codel).2.2).2)]⟩), .junk, .val (.int .i64 ((k4_12 coden codel).1)), .val (.agg ⟨[.int .i64 (((k4_12 coden codel).2.1).1), .int .i64 (((k4_12 coden codel).2.1).2)]⟩), .val (.agg ⟨[.int .i64 (((k4_12 coden codel).2.2).1), .int .i64 (((k4_12 coden codel).2.2).2)]⟩), .junk, .row 632, .val (.int .i64 ((k4_13 coden codel).2)), .junk, .val (.int .i64 ((k4_12 coden codel).1)), .val (.agg ⟨[.int .i64 (((k4_12 coden codel).2.1).1), .int .i64 (((k4_12 coden codel).2.1).2)]⟩), .val (.agg ⟨[.int .i64 (((k4_12 coden codel).2.2).1), .int .i64 (((k4_12 coden codel).2.2).2)]⟩), .junk, .row 660, .val (.int .i64 ((k4_14 coden codel).2)), .val (.int .i64 ((k4_13 coden codel).2)), .val (.int .i64 ((k4_14 coden codel).2)), .val (.bool (((k4_13 coden codel).2) != ((k4_14 coden codel).2))), .val (.bool false), .row 632, .row 660, .val (.bool (k4_15 coden codel)), .val (.bool (!(k4_15 coden codel))), .val (.bool (!(k4_15 coden codel))), .val (.int .i64 ((k4_13 coden codel).2)), .val (.bool (((k4_13 coden codel).2) == 0)), .val (.bool true), .row 632, .ptr 632 0, .val (.int .i64 ((((k4_13 coden codel).1).2).getD 0 0)), .row 632, .ptr 632 0, .val (.int .i64 ((((k4_13 coden codel).1).2).getD 0 0)), .val (.int .i64 (wI (((((k4_13 coden codel).1).2).getD 0 0) * ((((k4_13 coden codel).1).2).getD 0 0)))), .row 632, .ptr 632 1, .val (.int .i64 ((((k4_13 coden codel).1).2).getD 1 0)), .row 632, .ptr 632 1, .val (.int .i64 ((((k4_13 coden codel).1).2).getD 1 0)), .val (.int .i64 (wI (((((k4_13 coden codel).1).2).getD 1 0) * ((((k4_13 coden codel).1).2).getD 1 0)))), .val (.int .i64 (wI ((wI (((((k4_13 coden codel).1).2).getD 0 0) * ((((k4_13 coden codel).1).2).getD 0 0))) - (wI (((((k4_13 coden codel).1).2).getD 1 0) * ((((k4_13 coden codel).1).2).getD 1 0)))))), .row 632, .ptr 632 2, .val (.int .i64 ((((k4_13 coden codel).1).2).getD 2 0)), .row 632, .ptr 632 2, .val (.int .i64 ((((k4_13 coden codel).1).2).getD 2 0)), .val (.int .i64 (wI (((((k4_13 coden codel).1).2).getD 2 0) * ((((k4_13 coden codel).1).2).getD 2 0)))), .val (.int .i64 (wI ((wI ((wI (((((k4_13 coden codel).1).2).getD 0 0) * ((((k4_13 coden codel).1).2).getD 0 0))) - (wI (((((k4_13 coden codel).1).2).getD 1 0) * ((((k4_13 coden codel).1).2).getD 1 0))))) - (wI (((((k4_13 coden codel).1).2).getD 2 0) * ((((k4_13 coden codel).1).2).getD 2 0)))))), .val (.int .i64 ((k4_12 coden codel).1)), .val (.int .i64 ((wI ((wI ((wI (((((k4_13 coden codel).1).2).getD 0 0) * ((((k4_13 coden codel).1).2).getD 0 0))) - (wI (((((k4_13 coden codel).1).2).getD 1 0) * ((((k4_13 coden codel).1).2).getD 1 0))))) - (wI (((((k4_13 coden codel).1).2).getD 2 0) * ((((k4_13 coden codel).1).2).getD 2 0))))).tmod ((k4_12 coden codel).1))), .val (.bool (((wI ((wI ((wI (((((k4_13 coden codel).1).2).getD 0 0) * ((((k4_13 coden codel).1).2).getD 0 0))) - (wI (((((k4_13 coden codel).1).2).getD 1 0) * ((((k4_13 coden codel).1).2).getD 1 0))))) - (wI (((((k4_13 coden codel).1).2).getD 2 0) * ((((k4_13 coden codel).1).2).getD 2 0))))).tmod ((k4_12 coden codel).1)) != 0)), .val (.bool (((wI ((wI ((wI (((((k4_13 coden codel).1).2).getD 0 0) * ((((k4_13 coden codel).1).2).getD 0 0))) - (wI (((((k4_13 coden codel).1).2).getD 1 0) * ((((k4_13 coden codel).1).2).getD 1 0))))) - (wI (((((k4_13 coden codel).1).2).getD 2 0) * ((((k4_13 coden codel).1).2).getD 2 0))))).tmod ((k4_12 coden codel).1)) != 0)), .val (.int .i64 ((k4_1 coden codel).2)), .val (.bool (((k4_1 coden codel).2) != 0)), .junk, .junk, .junk, .junk, .junk, .junk, .junk, .junk, .junk, .junk, .junk, .junk, .junk, .val (.int .i64 ((k4_4 coden codel).2)), .val (.bool (((k4_4 coden codel).2) != 0)), .val (.bool false), .val (.int .i64 ((k4_10 coden codel).2)), .val (.bool (((k4_10 coden codel).2) != 0)), .val (.bool (((k4_10 coden codel).2) != 0)), .val (.int .i64 3), .val (.bool false), .junk, .junk, .junk, .junk, .junk, .junk, .junk, .junk, .junk, .junk, .junk, .junk, .junk, .junk, .junk, .junk, .junk, .junk, .junk, .junk, .junk, .junk, .junk, .junk, .junk, .junk, .junk, .junk, .junk, .val (.int .i64 ((k4_0 coden codel).1)), .val (.bool (((k4_0 coden codel).1) == 3)), .junk, .val (.int .i64 ((k4_0 coden codel).1)), .val (.agg ⟨[.int .i64 (((k4_0 coden codel).2.1).1), .int .i64 (((k4_0 coden codel).2.1).2)]⟩), .val (.agg ⟨[.int .i64 (((k4_0 coden codel).2.2.1).1), .int .i64 (((k4_0 coden codel).2.2.1).2)]⟩), .val (.agg ⟨[.int .i64 (((k4_0 coden codel).2.2.2).1), .int .i64 (((k4_0 coden codel).2.2.2).2)]⟩), .junk, .val (.agg ⟨[.int .i64 (((k4_19 coden codel).1).1), .int .i64 (((k4_19 coden codel).1).2)]⟩), .val (.int .i64 ((k4_19 coden codel).2)), .val (.int .i64 ((k4_19 coden codel).2)), .val (.bool (((k4_19 coden codel).2) != 0)), .junk, .junk, .junk, .junk, .junk, .junk, .junk, .junk, .junk, .junk, .junk, .junk, .junk, .junk, .junk, .junk, .junk, .junk, .junk, .junk, .junk, .junk, .junk, .junk, .junk, .junk, .junk, .junk, .junk, .junk, .junk, .junk, .junk, .junk, .junk, .junk, .junk, .junk, .junk, .junk, .junk, .junk, .junk, .junk, .junk], [(0, .ros coden (.byts codel)), (16, .box 30 [.val (.int .i64 (((k4_0 coden codel).2.1).1)), .val (.int .i64 (((k4_0 coden codel).2.1).2))]), (20, .box 30 [.val (.int .i64 (((k4_0 coden codel).2.2.1).1)), .val (.int .i64 (((k4_0 coden codel).2.2.1).2))]), (24, .box 30 [.val (.int .i64 (((k4_0 coden codel).2.2.2).1)), .val (.int .i64 (((k4_0 coden codel).2.2.2).2))]), (96, .box 30 [.val (.int .i64 (((k4_12 coden codel).2.1).1)), .val (.int .i64 (((k4_12 coden codel).2.1).2))]), (100, .box 30 [.val (.int .i64 (((k4_12 coden codel).2.2).1)), .val (.int .i64 (((k4_12 coden codel).2.2).2))]), (132, .box 30 [.val (.int .i64 (((k4_19 coden codel).1).1)), .val (.int .i64 (((k4_19 coden codel).1).2))]), (216, .row 30 2 (((k4_1 coden codel).1).1) (.ints (((k4_1 coden codel).1).2))), (248, .row 30 2 (((k4_2 coden codel).1).1) (.ints (((k4_2 coden codel).1).2))), (316, .row 30 2 (((k4_4 coden codel).1).1) (.ints (((k4_4 coden codel).1).2))), (348, .row 30 2 (((k4_5 coden codel).1).1) (.ints (((k4_5 coden codel).1).2))), (416, .row 32 3 (((k4_7 coden codel).1).1) (.ints (((k4_7 coden codel).1).2))), (448, .row 32 3 (((k4_8 coden codel).1).1) (.ints (((k4_8 coden codel).1).2))), (632, .row 2 1 (((k4_13 coden codel).1).1) (.ints (((k4_13 coden codel).1).2))), (660, .row 2 1 (((k4_14 coden codel).1).1) (.ints (((k4_14 coden codel).1).2)))]⟩
def T_l_FnColours_1 (coden : Nat) (codel : List Int) (i : Int) : Tab := ⟨[.row 0, .junk, .val (.bool false), .val (.int .i64 ((k4_0 coden codel).1)), .ptr 16 0, .ptr 20 0, .ptr 24 0, .row 216, .val (.int .i64 ((k4_1 coden codel).2)), .row 248, .val (.int .i64 ((k4_2 coden codel).2)), .row 316, .val (.int .i64 ((k4_4 coden codel).2)), .row 348, .val (.int .i64 ((k4_5 coden codel).2)), .row 416, .val (.int .i64 ((k4_7 coden codel).2)), .row 448, .val (.int .i64 ((k4_8 coden codel).2)), .val (.int .i64 ((k4_10 coden codel).1)), .val (.int .i64 ((k4_10 coden codel).2)), .val (.int .i64 ((k4_11 coden codel).1)), .val (.int .i64 ((k4_11 coden codel).2)), .val (.int .i64 ((k4_12 coden codel).1)), .ptr 96 0, .ptr 100 0, .row 632, .val (.int .i64 ((k4_13 coden codel).2)), .row 660, .val (.int .i64 ((k4_14 coden codel).2)), .val (.int .i64 3), .junk, .junk, .ptr 132 0, .val (.int .i64 ((k4_19 coden codel).2)), .val (.int .i64 i), .junk, .junk, .junk, .junk, .row 0, .val (.bool (l_big coden codel)), .junk, .row 0, .junk, .val (.int .i64 ((k4_0 coden codel).1)), .val (.agg ⟨[.int .i64 (((k4_0 coden codel).2.1).1), .int .i64 (((k4_0 coden codel).2.1).2)]⟩), .val (.agg ⟨[.int .i64 (((k4_0 coden codel).2.2.1).1), .int .i64 (((k4_0 coden codel).2.2.1).2)]⟩), .val (.agg ⟨[.int .i64 (((k4_0 coden codel).2.2.2).1), .int .i64 (((k4_0 coden codel).2.2.2).2)]⟩), .junk, .val (.int .i64 ((k4_0 coden codel).1)), .val (.agg ⟨[.int .i64 (((k4_0 coden codel).2.1).1), .int .i64 (((k4_0 coden codel).2.1).2)]⟩), .val (.agg ⟨[.int .i64 (((k4_0 coden codel).2.2.1).1), .int .i64 (((k4_0 coden codel).2.2.1).2)]⟩), .val (.agg ⟨[.int .i64 (((k4_0 coden codel).2.2.2).1), .int .i64 (((k4_0 coden codel).2.2.2).2)]⟩), .junk, .row 216, .val (.int .i64 ((k4_1 coden codel).2)), .junk, .val (.int .i64 ((k4_0 coden codel).1)), .val (.agg ⟨[.int .i64 (((k4_0 coden codel).2.1).1), .int .i64 (((k4_0 coden codel).2.1).2)]⟩), .val (.agg ⟨[.int .i64 (((k4_0 coden codel).2.2.1).1), .int .i64 (((k4_0 coden codel).2.2.1).2)]⟩), .val (.agg ⟨[.int .i64 (((k4_0 coden codel).2.2.2).1), .int .i64 (((k4_0 coden codel).2.2.2).2)]⟩), .junk, .row 248, .val (.int .i64 ((k4_2 coden codel).2)), .val (.int .i64 ((k4_1 coden codel).2)), .val (.int .i64 ((k4_2 coden codel).2)), .val (.bool (((k4_1 coden codel).2) != ((k4_2 coden codel).2))), .val (.bool false), .row 216, .row 248, .val (.bool (k4_3 coden codel)), .val (.bool (!(k4_3 coden codel))), .val (.bool (!(k4_3 coden codel))), .junk, .val (.int .i64 ((k4_0 coden codel).1)), .val (.agg ⟨[.int .i64 (((k4_0 coden codel).2.1).1), .int .i64 (((k4_0 coden codel).2.1).2)]⟩), .val (.agg ⟨[.int .i64 (((k4_0 coden codel).2.2.1).1), .int .i64 (((k4_0 coden codel).2.2.1).2)]⟩), .val (.agg ⟨[.int .i64 (((k4_0 coden codel).2.2.2).1), .int .i64 (((k4_0 coden codel).2.2.2).2)]⟩), .junk, .row 316, .val (.int .i64 ((k4_4 coden codel).2)), .junk, .val (.int .i64 ((k4_0 coden codel).1)), .val (.agg ⟨[.int .i64 (((k4_0 coden codel).2.1).1), .int .i64 (((k4_0 coden codel).2.1).2)]⟩), .val (.agg ⟨[.int .i64 (((k4_0 coden codel).2.2.1).1), .int .i64 (((k4_0 coden codel).2.2.1).2)]⟩), .val (.agg ⟨[.int .i64 (((k4_0 coden codel).2.2.2).1), .int .i64 (((k4_0 coden codel).2.2.2).2)]⟩), .junk, .row 348, .val (.int .i64 ((k4_5 coden codel).2)), .val (.int .i64 ((k4_4 coden codel).2)), .val (.int .i64 ((k4_5 coden codel).2)), .val (.bool (((k4_4 coden codel).2) != ((k4_5 coden codel).2))), .val (.bool false), .row 316, .row 348, .val (.bool (k4_6 coden codel)), .val (.bool (!(k4_6 coden codel))), .val (.bool (!(k4_6 coden codel))), .junk, .val (.int .i64 ((k4_0 coden codel).1)), .val (.agg ⟨[.int .i64 (((k4_0 coden codel).2.1).1), .int .i64 (((k4_0 coden codel).2.1).2)]⟩), .val (.agg ⟨[.int .i64 (((k4_0 coden codel).2.2.1).1), .int .i64 (((k4_0 coden codel).2.2.1).2)]⟩), .val (.agg ⟨[.int .i64 (((k4_0 coden codel).2.2.2).1), .int .i64 (((k4_0 coden codel).2.2.2).2)]⟩), .junk, .row 416, .val (.int .i64 ((k4_7 coden codel).2)), .junk, .val (.int .i64 ((k4_0 coden codel).1)), .val (.agg ⟨[.int .i64 (((k4_0 coden codel).2.1).1), .int .i64 (((k4_0 coden codel).2.1).2)]⟩), .val (.agg ⟨[.int .i64 (((k4_0 coden codel).2.2.1).1), .int .i64 (((k4_0 coden codel).2.2.1).2)]⟩), .val (.agg ⟨[.int .i64 (((k4_0 coden codel).2.2.2).1), .int .i64 (((k4_0 coden codel).2.2.2).2)]⟩), .junk, .row 448, .val (.int .i64 ((k4_8 coden codel).2)), .val (.int .i64 ((k4_7 coden codel).2)), .val (.int .i64 ((k4_8 coden codel).2)), .val (.bool (((k4_7 coden codel).2) != ((k4_8 coden codel).2))), .val (.bool false), .row 416, .row 448, .val (.bool (k4_9 coden codel)), .val (.bool (!(k4_9 coden codel))), .val (.bool (!(k4_9 coden codel))), .junk, .val (.int .i64 ((k4_0 coden codel).1)), .val (.agg ⟨[.int .i64 (((k4_0 coden codel).2.1).1), .int .i64 (((k4_0 coden codel).2.1).2)]⟩), .val (.agg ⟨[.int .i64 (((k4_0 coden codel).2.2.1).1), .int .i64 (((k4_0 coden codel).2.2.1).2)]⟩), .val (.agg ⟨[.int .i64 (((k4_0 coden codel).2.2.2).1), .int .i64 (((k4_0 coden codel).2.2.2).2)]⟩), .junk, .val (.int .i64 ((k4_10 coden codel).1)), .val (.int .i64 ((k4_10 coden codel).2)), .junk, .val (.int .i64 ((k4_0 coden codel).1)), .val (.agg ⟨[.int .i64 (((k4_0 coden codel).2.1).1), .int .i64 (((k4_0 coden codel).2.1).2)]⟩), .val (.agg ⟨[.int .i64 (((k4_0 coden codel).2.2.1).1), .int .i64 (((k4_0 coden codel).2.2.1).2)]⟩), .val (.agg ⟨[.int .i64 (((k4_0 coden codel).2.2.2).1), .int .i64 (((k4_0 coden codel).2.2.2).2)]⟩), .junk, .val (.int .i64 ((k4_11 coden codel).1)), .val (.int .i64 ((k4_11 coden codel).2)), .val (.int .i64 ((k4_10 coden codel).2)), .val (.int .i64 ((k4_11 coden codel).2)), .val (.bool (((k4_10 coden codel).2) != ((k4_11 coden codel).2))), .val (.bool false), .val (.int .i64 ((k4_10 coden codel).1)), .val (.int .i64 ((k4_11 coden codel).1)), .val (.bool (((k4_10 coden codel).1) != ((k4_11 coden codel).1))), .val (.bool (((k4_10 coden codel).1) != ((k4_11 coden codel).1))), .junk, .row 0, .junk, .val (.int .i64 ((k4_12 coden codel).1)), .val (.agg ⟨[.int .i64 (((k4_12 coden codel).2.1).1), .int .i64 (((k4_12 coden codel).2.1).2)]⟩), .val (.agg ⟨[.int .i64 (((k4_12 coden codel).2.2).1), .int .i64 (((k4_12 coden codel).2.2).2)]⟩), .junk, .val (.int .i64 ((k4_12 coden codel).1)), .val (.agg ⟨[.int .i64 (((k4_12 coden codel).2.1).1), .int .i64 (((k4_12 coden codel).2.1).2)]⟩), .val (.agg ⟨[.int .i64 (((k4_12 coden codel).2.2).1), .int .i64 (((k4_12 coden codel).2.2).2)]⟩), .junk, .row 632, .val (.int .i64 ((k4_13 coden codel).2)), .junk, .val (.int .i64 ((k4_12 coden codel).1)), .val (.agg ⟨[.int .i64 (((k4_12 coden codel).2.1).1), .int .i64 (((k4_12 coden codel).2.1).2)]⟩), .val (.agg ⟨[.int .i64 (((k4_12 coden codel).2.2).1), .int .i64 (((k4_12 coden codel).2.2).2)]⟩), .junk, .row 660, .val (.int .i64 ((k4_14 coden codel).2)), .val (.int .i64 ((k4_13 coden codel).2)), .val (.int .i64 ((k4_14 coden codel).2)), .val (.bool (((k4_13 coden codel).2) != ((k4_14 coden codel).2))), .val (.bool false), .row 632, .row 660, .val (.bool (k4_15 coden codel)), .val (.bool (!(k4_15 coden codel))), .val (.bool (!(k4_15 coden codel))), .val (.int .i64 ((k4_13 coden codel).2)), .val (.bool (((k4_13 coden codel).2) == 0)), .val (.bool false), .val (undef), .val (undef), .val (undef), .val (undef), .val (undef), .val (undef), .val (undef), .val (undef), .val (undef), .val (undef), .val (undef), .val (undef), .val (undef), .val (undef), .val (undef), .val (undef), .val (undef), .val (undef), .val (undef), .val (undef), .val (undef), .val (undef), .val (undef), .val (undef), .val (undef), .val (undef), .val (.bool false), .val (.int .i64 ((k4_1 coden codel).2)), .val (.bool (((k4_1 coden codel).2) != 0)), .junk, .junk, .junk, .junk, .junk, .junk, .junk, .junk, .junk, .junk, .junk, .junk, .junk, .val (.int .i64 ((k4_4 coden codel).2)), .val (.bool (((k4_4 coden codel).2) != 0)), .val (.bool false), .val (.int .i64 ((k4_10 coden codel).2)), .val (.bool (((k4_10 coden codel).2) != 0)), .val (.bool (((k4_10 coden codel).2) != 0)), .val (.int .i64 3), .val (.bool false), .junk, .junk, .junk, .junk, .junk, .junk, .junk, .junk, .junk, .junk, .junk, .junk, .junk, .junk, .junk, .junk, .junk, .junk, .junk, .junk, .junk, .junk, .junk, .junk, .junk, .junk, .junk, .junk, .junk, .val (.int .i64 ((k4_0 coden codel).1)), .val (.bool (((k4_0 coden codel).1) == 3)), .junk, .val (.int .i64 ((k4_0 coden codel).1)), .val (.agg ⟨[.int .i64 (((k4_0 coden codel).2.1).1), .int .i64 (((k4_0 coden codel).2.1).2)]⟩), .val (.agg ⟨[.int .i64 (((k4_0 coden codel).2.2.1).1), .int .i64 (((k4_0 coden codel).2.2.1).2)]⟩), .val (.agg ⟨[.int .i64 (((k4_0 coden codel).2.2.2).1), .int .i64 (((k4_0 coden codel).2.2.2).2)]⟩), .junk, .val (.agg ⟨[.int .i64 (((k4_19 coden codel).1).1), .int .i64 (((k4_19 coden codel).1).2)]⟩), .val (.int .i64 ((k4_19 coden codel).2)), .val (.int .i64 ((k4_19 coden codel).2)), .val (.bool (((k4_19 coden codel).2) != 0)), .junk, .junk, .junk, .junk, .junk, .junk, .junk, .junk, .junk, .junk, .junk, .junk, .junk, .junk, .junk, .junk, .junk, .junk, .junk, .junk, .junk, .junk, .junk, .junk, .junk, .junk, .junk, .junk, .junk, .junk, .junk, .junk, .junk, .junk, .junk, .junk, .junk, .junk, .junk, .junk, .junk, .junk, .junk, .junk, .junk], [(0, .ros coden (.byts codel)), (16, .box 30 [.val (.int .i64 (((k4_0 coden codel).2.1).1)), .val (.int .i64 (((k4_0 coden codel).2.1).2))]), (20, .box 30 [.val (.int .i64 (((k4_0 coden codel).2.2.1).1)), .val (.int .i64 (((k4_0 coden codel).2.2.1).2))]), (24, .box 30 [.val (.int .i64 (((k4_0 coden codel).2.2.2).1)), .val (.int .i64 (((k4_0 coden codel).2.2.2).2))]), (96, .box 30 [.val (.int .i64 (((k4_12 coden codel).2.1).1)), .val (.int .i64 (((k4_12 coden codel).2.1).2))]), (100, .box 30 [.val (.int .i64 (((k4_12 coden codel).2.2).1)), .val (.int .i64 (((k4_12 coden codel).2.2).2))]), (132, .box 30 [.val (.int .i64 (((k4_19 coden codel).1).1)), .val (.int .i64 (((k4_19 coden codel).1).2))]), (216, .row 30 2 (((k4_1 coden codel).1).1) (.ints (((k4_1 coden codel).1).2))), (248, .row 30 2 (((k4_2 coden codel).1).1) (.ints (((k4_2 coden codel).1).2))), (316, .row 30 2 (((k4_4 coden codel).1).1) (.ints (((k4_4 coden codel).1).2))), (348, .row 30 2 (((k4_5 coden codel).1).1) (.ints (((k4_5 coden codel).1).2))), (416, .row 32 3 (((k4_7 coden codel).1).1) (.ints (((k4_7 coden codel).1).2))), (448, .row 32 3 (((k4_8 coden codel).1).1) (.ints (((k4_8 coden codel).1).2))), (632, .row 2 1 (((k4_13 coden codel).1).1) (.ints (((k4_13 coden codel).1).2))), (660, .row 2 1 (((k4_14 coden codel).1).1) (.ints (((k4_14 coden codel).1).2)))]⟩
def X_l_FnColours_0 (P : Program) (fu : Nat) (coden : Nat) (codel : List Int) (f : Nat) (i : Int) : Option (Bool) := loopK (exec P S_l_FnColours 316 (fun _ => fu + 100) (Code.sub [1, 1, 1, 1, 1, 1, 1, 1, 1, 1, 1, 1, 1, 1, 1, 1, 1, 1, 1, 1, 1, 0, 1, 0, 0] (bodyF P 4))) f (T_l_FnColours_0 coden codel i) (kBlock 2 (kSeq (fun s => exec P S_l_FnColours 316 (fun _ => fu + 100) (Code.sub [1, 1, 1, 1, 1, 1, 1, 1, 1, 1, 1, 1, 1, 1, 1, 1, 1, 1, 1, 1, 1, 1] (bodyF P 4)) s (finT P 4 dec_b)) (finT P 4 dec_b)))
def B_l_FnColours_0 (coden : Nat) (codel : List Int) (rec0 : Int → Option (Bool)) (i : Int) : Option (Bool) :=
  (if (decide (i < ((((k4_7 coden codel).1).1 : Nat) : Int))) = true then (if (decide (0 ≤ i) && decide (i < ((((k4_7 coden codel).1).1 : Nat) : Int))) = true then (if (Nat.ble (i.toNat * 3 + 3) ((((k4_7 coden codel).1).2).length)) = true then (if (((i_IsOnLine ((k4_0 coden codel).1) ((k4_19 coden codel).1) ((((k4_7 coden codel).1).2).getD (i.toNat * 3 + 0) 0, (((k4_7 coden codel).1).2).getD (i.toNat * 3 + 1) 0, (((k4_7 coden codel).1).2).getD (i.toNat * 3 + 2) 0)).2) != 0) = true then some false else (if (!((i_IsOnLine ((k4_0 coden codel).1) ((k4_19 coden codel).1) ((((k4_7 coden codel).1).2).getD (i.toNat * 3 + 0) 0, (((k4_7 coden codel).1).2).getD (i.toNat * 3 + 1) 0, (((k4_7 coden codel).1).2).getD (i.toNat * 3 + 2) 0)).1)) = true then some false else rec0 (wI (i + 1)))) else none) else none) else (if (((k4_10 coden codel).1) != 0) = true then (if (decide (0 ≤ 0) && decide (0 < ((((k4_1 coden codel).1).1 : Nat) : Int))) = true then (if (Nat.ble (2) ((((k4_1 coden codel).1).2).length)) = true then (if (decide (0 ≤ 1) && decide (1 < ((((k4_1 coden codel).1).1 : Nat) : Int))) = true then (if (Nat.ble (4) ((((k4_1 coden codel).1).2).length)) = true then (if (decide (0 ≤ 2) && decide (2 < ((((k4_1 coden codel).1).1 : Nat) : Int))) = true then (if (Nat.ble (6) ((((k4_1 coden codel).1).2).length)) = true then (if (((k4_21 coden codel).2) == 0) = true then some (((k4_21 coden codel).1) == ((k4_19 coden codel).1)) else some false) else none) else none) else none) else none) else none) else none) else some true))
def L_l_FnColours_0 (fu : Nat) (coden : Nat) (codel : List Int) : Nat → Int → Option (Bool)
  | 0, _ => none
  | f + 1, i => B_l_FnColours_0 coden codel (L_l_FnColours_0 fu coden codel f) i
theorem loop_l_FnColours_0 (fu : Nat) (coden : Nat) (codel : List Int) : ∀ (f : Nat) (i : Int), X_l_FnColours_0 Try.prog fu coden codel f i = L_l_FnColours_0 fu coden codel f i := by
  intro f
  induction f with
  | zero => intros; rfl
  | succ f ih =>
    intro i
    have h1 : X_l_FnColours_0 Try.prog fu coden codel (f + 1) i = B_l_FnColours_0 coden codel (X_l_FnColours_0 Try.prog fu coden codel f) i := by kernel_rfl
    have h2 : X_l_FnColours_0 Try.prog fu coden codel f = L_l_FnColours_0 fu coden codel f := by funext i; exact ih i
    rw [h1, h2]
    rfl
def X_l_FnColours_1 (P : Program) (fu : Nat) (coden : Nat) (codel : List Int) (f : Nat) (i : Int) : Option (Bool) := loopK (exec P S_l_FnColours 316 (fun _ => fu + 100) (Code.sub [1, 1, 1, 1, 1, 1, 1, 1, 1, 1, 1, 1, 1, 1, 1, 1, 1, 1, 1, 1, 1, 0, 1, 0, 0] (bodyF P 4))) f (T_l_FnColours_1 coden codel i) (kBlock 2 (kSeq (fun s => exec P S_l_FnColours 316 (fun _ => fu + 100) (Code.sub [1, 1, 1, 1, 1, 1, 1, 1, 1, 1, 1, 1, 1, 1, 1, 1, 1, 1, 1, 1, 1, 1] (bodyF P 4)) s (finT P 4 dec_b)) (finT P 4 dec_b)))
def B_l_FnColours_1 (coden : Nat) (codel : List Int) (rec1 : Int → Option (Bool)) (i : Int) : Option (Bool) :=
  B_l_FnColours_0 coden codel rec1 i
def L_l_FnColours_1 (fu : Nat) (coden : Nat) (codel : List Int) : Nat → Int → Option (Bool)
  | 0, _ => none
  | f + 1, i => B_l_FnColours_1 coden codel (L_l_FnColours_1 fu coden codel f) i
theorem loop_l_FnColours_1 (fu : Nat) (coden : Nat) (codel : List Int) : ∀ (f : Nat) (i : Int), X_l_FnColours_1 Try.prog fu coden codel f i = L_l_FnColours_1 fu coden codel f i := by
  intro f
  induction f with
  | zero => intros; rfl
  | succ f ih =>
    intro i
    have h1 : X_l_FnColours_1 Try.prog fu coden codel (f + 1) i = B_l_FnColours_1 coden codel (X_l_FnColours_1 Try.prog fu coden codel f) i := by kernel_rfl
    have h2 : X_l_FnColours_1 Try.prog fu coden codel f = L_l_FnColours_1 fu coden codel f := by funext i; exact ih i
    rw [h1, h2]
    rfl
theorem same_l_FnColours_1 : L_l_FnColours_1 = L_l_FnColours_0 := by kernel_rfl
def G_l_FnColours (coden : Nat) (codel : List Int) (lo0 : Int → Option (Bool)) (lo1 : Int → Option (Bool)) : Option (Bool) :=
  (if (l_big coden codel) = true then some true else (if (codeB coden codel) = true then (if (((k4_1 coden codel).2) != ((k4_2 coden codel).2)) = true then some false else (if (lenB (((k4_1 coden codel).1).1) 2 (((k4_1 coden codel).1).2) && lenB (((k4_2 coden codel).1).1) 2 (((k4_2 coden codel).1).2)) = true then (if (!(k4_3 coden codel)) = true then some false else (if (((k4_4 coden codel).2) != ((k4_5 coden codel).2)) = true then some false else (if (lenB (((k4_4 coden codel).1).1) 2 (((k4_4 coden codel).1).2) && lenB (((k4_5 coden codel).1).1) 2 (((k4_5 coden codel).1).2)) = true then (if (!(k4_6 coden codel)) = true then some false else (if (((k4_7 coden codel).2) != ((k4_8 coden codel).2)) = true then some false else (if (lenB (((k4_7 coden codel).1).1) 3 (((k4_7 coden codel).1).2) && lenB (((k4_8 coden codel).1).1) 3 (((k4_8 coden codel).1).2)) = true then (if (!(k4_9 coden codel)) = true then some false else (if (((k4_10 coden codel).2) != ((k4_11 coden codel).2)) = true then some false else (if (((k4_10 coden codel).1) != ((k4_11 coden codel).1)) = true then some false else (if (codeB coden codel) = true then (if (((k4_13 coden codel).2) != ((k4_14 coden codel).2)) = true then some false else (if (lenB (((k4_13 coden codel).1).1) 1 (((k4_13 coden codel).1).2) && lenB (((k4_14 coden codel).1).1) 1 (((k4_14 coden codel).1).2)) = true then (if (!(k4_15 coden codel)) = true then some false else (if (((k4_13 coden codel).2) == 0) = true then (if (decide (0 ≤ 0) && decide (0 < ((((k4_13 coden codel).1).1 : Nat) : Int))) = true then (if (Nat.ble (1) ((((k4_13 coden codel).1).2).length)) = true then (if (decide (0 ≤ 0) && decide (0 < ((((k4_13 coden codel).1).1 : Nat) : Int))) = true then (if (Nat.ble (1) ((((k4_13 coden codel).1).2).length)) = true then (if (decide (0 ≤ 1) && decide (1 < ((((k4_13 coden codel).1).1 : Nat) : Int))) = true then (if (Nat.ble (2) ((((k4_13 coden codel).1).2).length)) = true then (if (decide (0 ≤ 1) && decide (1 < ((((k4_13 coden codel).1).1 : Nat) : Int))) = true then (if (Nat.ble (2) ((((k4_13 coden codel).1).2).length)) = true then (if (decide (0 ≤ 2) && decide (2 < ((((k4_13 coden codel).1).1 : Nat) : Int))) = true then (if (Nat.ble (3) ((((k4_13 coden codel).1).2).length)) = true then (if (decide (0 ≤ 2) && decide (2 < ((((k4_13 coden codel).1).1 : Nat) : Int))) = true then (if (Nat.ble (3) ((((k4_13 coden codel).1).2).length)) = true then (if (!(((k4_12 coden codel).1) == 0)) = true then (if (((wI ((wI ((wI (((((k4_13 coden codel).1).2).getD 0 0) * ((((k4_13 coden codel).1).2).getD 0 0))) - (wI (((((k4_13 coden codel).1).2).getD 1 0) * ((((k4_13 coden codel).1).2).getD 1 0))))) - (wI (((((k4_13 coden codel).1).2).getD 2 0) * ((((k4_13 coden codel).1).2).getD 2 0))))).tmod ((k4_12 coden codel).1)) != 0) = true then some false else (if (((k4_1 coden codel).2) != 0) = true then (if (((((k4_1 coden codel).1).1 : Nat) : Int) == 0) = true then (if (((k4_4 coden codel).2) == ((k4_1 coden codel).2)) = true then some (((k4_10 coden codel).2) == ((k4_1 coden codel).2)) else some false) else some false) else (if (((k4_4 coden codel).2) != 0) = true then some false else (if (((k4_10 coden codel).2) != 0) = true then some false else (if (decide (0 ≤ 1) && decide (1 < ((((k4_1 coden codel).1).1 : Nat) : Int))) = true then (if (Nat.ble (4) ((((k4_1 coden codel).1).2).length)) = true then (if (decide (0 ≤ 2) && decide (2 < ((((k4_1 coden codel).1).1 : Nat) : Int))) = true then (if (Nat.ble (6) ((((k4_1 coden codel).1).2).length)) = true then (if (((k4_16 coden codel).2) != 0) = true then some false else (if (decide (0 ≤ 0) && decide (0 < ((((k4_4 coden codel).1).1 : Nat) : Int))) = true then (if (Nat.ble (2) ((((k4_4 coden codel).1).2).length)) = true then (if (!(((k4_16 coden codel).1) == ((((k4_4 coden codel).1).2).getD 0 0, (((k4_4 coden codel).1).2).getD 1 0))) = true then some false else (if (decide (0 ≤ 2) && decide (2 < ((((k4_1 coden codel).1).1 : Nat) : Int))) = true then (if (Nat.ble (6) ((((k4_1 coden codel).1).2).length)) = true then (if (decide (0 ≤ 0) && decide (0 < ((((k4_1 coden codel).1).1 : Nat) : Int))) = true then (if (Nat.ble (2) ((((k4_1 coden codel).1).2).length)) = true then (if (((k4_17 coden codel).2) != 0) = true then some false else (if (decide (0 ≤ 1) && decide (1 < ((((k4_4 coden codel).1).1 : Nat) : Int))) = true then (if (Nat.ble (4) ((((k4_4 coden codel).1).2).length)) = true then (if (!(((k4_17 coden codel).1) == ((((k4_4 coden codel).1).2).getD 2 0, (((k4_4 coden codel).1).2).getD 3 0))) = true then some false else (if (decide (0 ≤ 0) && decide (0 < ((((k4_1 coden codel).1).1 : Nat) : Int))) = true then (if (Nat.ble (2) ((((k4_1 coden codel).1).2).length)) = true then (if (decide (0 ≤ 1) && decide (1 < ((((k4_1 coden codel).1).1 : Nat) : Int))) = true then (if (Nat.ble (4) ((((k4_1 coden codel).1).2).length)) = true then (if (((k4_18 coden codel).2) != 0) = true then some false else (if (decide (0 ≤ 2) && decide (2 < ((((k4_4 coden codel).1).1 : Nat) : Int))) = true then (if (Nat.ble (6) ((((k4_4 coden codel).1).2).length)) = true then (if (!(((k4_18 coden codel).1) == ((((k4_4 coden codel).1).2).getD 4 0, (((k4_4 coden codel).1).2).getD 5 0))) = true then some false else (if (((k4_0 coden codel).1) == 3) = true then some true else (if (((k4_19 coden codel).2) != 0) = true then some false else lo0 0))) else none) else none)) else none) else none) else none) else none)) else none) else none)) else none) else none) else none) else none)) else none) else none)) else none) else none) else none) else none))))) else none) else none) else none) else none) else none) else none) else none) else none) else none) else none) else none) else none) else none) else (if (((k4_1 coden codel).2) != 0) = true then (if (((((k4_1 coden codel).1).1 : Nat) : Int) == 0) = true then (if (((k4_4 coden codel).2) == ((k4_1 coden codel).2)) = true then some (((k4_10 coden codel).2) == ((k4_1 coden codel).2)) else some false) else some false) else (if (((k4_4 coden codel).2) != 0) = true then some false else (if (((k4_10 coden codel).2) != 0) = true then some false else (if (decide (0 ≤ 1) && decide (1 < ((((k4_1 coden codel).1).1 : Nat) : Int))) = true then (if (Nat.ble (4) ((((k4_1 coden codel).1).2).length)) = true then (if (decide (0 ≤ 2) && decide (2 < ((((k4_1 coden codel).1).1 : Nat) : Int))) = true then (if (Nat.ble (6) ((((k4_1 coden codel).1).2).length)) = true then (if (((k4_16 coden codel).2) != 0) = true then some false else (if (decide (0 ≤ 0) && decide (0 < ((((k4_4 coden codel).1).1 : Nat) : Int))) = true then (if (Nat.ble (2) ((((k4_4 coden codel).1).2).length)) = true then (if (!(((k4_16 coden codel).1) == ((((k4_4 coden codel).1).2).getD 0 0, (((k4_4 coden codel).1).2).getD 1 0))) = true then some false else (if (decide (0 ≤ 2) && decide (2 < ((((k4_1 coden codel).1).1 : Nat) : Int))) = true then (if (Nat.ble (6) ((((k4_1 coden codel).1).2).length)) = true then (if (decide (0 ≤ 0) && decide (0 < ((((k4_1 coden codel).1).1 : Nat) : Int))) = true then (if (Nat.ble (2) ((((k4_1 coden codel).1).2).length)) = true then (if (((k4_17 coden codel).2) != 0) = true then some false else (if (decide (0 ≤ 1) && decide (1 < ((((k4_4 coden codel).1).1 : Nat) : Int))) = true then (if (Nat.ble (4) ((((k4_4 coden codel).1).2).length)) = true then (if (!(((k4_17 coden codel).1) == ((((k4_4 coden codel).1).2).getD 2 0, (((k4_4 coden codel).1).2).getD 3 0))) = true then some false else (if (decide (0 ≤ 0) && decide (0 < ((((k4_1 coden codel).1).1 : Nat) : Int))) = true then (if (Nat.ble (2) ((((k4_1 coden codel).1).2).length)) = true then (if (decide (0 ≤ 1) && decide (1 < ((((k4_1 coden codel).1).1 : Nat) : Int))) = true then (if (Nat.ble (4) ((((k4_1 coden codel).1).2).length)) = true then (if (((k4_18 coden codel).2) != 0) = true then some false else (if (decide (0 ≤ 2) && decide (2 < ((((k4_4 coden codel).1).1 : Nat) : Int))) = true then (if (Nat.ble (6) ((((k4_4 coden codel).1).2).length)) = true then (if (!(((k4_18 coden codel).1) == ((((k4_4 coden codel).1).2).getD 4 0, (((k4_4 coden codel).1).2).getD 5 0))) = true then some false else (if (((k4_0 coden codel).1) == 3) = true then some true else (if (((k4_19 coden codel).2) != 0) = true then some false else lo1 0))) else none) else none)) else none) else none) else none) else none)) else none) else none)) else none) else none) else none) else none)) else none) else none)) else none) else none) else none) else none)))))) else none)) else none)))) else none))) else none))) else none)) else none))
def Fo_l_FnColours (fu : Nat) (coden : Nat) (codel : List Int) : Option (Bool) := G_l_FnColours coden codel (L_l_FnColours_0 fu coden codel (fu + 100)) (L_l_FnColours_1 fu coden codel (fu + 100))
theorem eqg_l_FnColours (fu : Nat) (coden : Nat) (codel : List Int) : execT Try.prog S_l_FnColours 4 316 (fun _ => fu + 100) dec_b [.s coden (.byts codel)] = G_l_FnColours coden codel (L_l_FnColours_0 fu coden codel (fu + 100)) (L_l_FnColours_1 fu coden codel (fu + 100)) := by
  have h1 : execT Try.prog S_l_FnColours 4 316 (fun _ => fu + 100) dec_b [.s coden (.byts codel)] = G_l_FnColours coden codel (X_l_FnColours_0 Try.prog fu coden codel (fu + 100)) (X_l_FnColours_1 Try.prog fu coden codel (fu + 100)) := by kernel_rfl
  have c0 : X_l_FnColours_0 Try.prog fu coden codel (fu + 100) = L_l_FnColours_0 fu coden codel (fu + 100) := by funext i; exact loop_l_FnColours_0 fu coden codel (fu + 100) i
  have c1 : X_l_FnColours_1 Try.prog fu coden codel (fu + 100) = L_l_FnColours_1 fu coden codel (fu + 100) := by funext i; exact loop_l_FnColours_1 fu coden codel (fu + 100) i
  rw [h1, c0, c1]
theorem eq_l_FnColours (fu : Nat) (coden : Nat) (codel : List Int) : execT Try.prog S_l_FnColours 4 316 (fun _ => fu + 100) dec_b [.s coden (.byts codel)] = Fo_l_FnColours fu coden codel := eqg_l_FnColours fu coden codel
theorem OmegaDouble_same (p : Int) (a b c : P2) : i_OmegaDouble p a b c = s_OmegaDouble p a b c := by
  unfold i_OmegaDouble s_OmegaDouble i_omegaPoints s_l10Omega
  rw [tricode]
  by_cases h : i_triangle p 0 a b c = 0
  · have hf := (tri_zero h).1
    have e := area_same p (s_l04Orthocentre p 0 a b c) (s_l04Orthocentre p 1 a b c) (s_l04Orthocentre p 2 a b c) hf (ortho_pt h isC0) (ortho_pt h isC1) (ortho_pt h isC2)
    rw [ortho_eq h isC0, ortho_eq h isC1, ortho_eq h isC2]
    simp only [h]
    exact congrArg (fun x => (x, (0 : Int))) e.symm
  · simp [h]
theorem three_sq {r : Int} {u v : P2} (h : ((i_ThreeQuadrances r u v).2 == 0) = true) : ∃ x y z, i_ThreeQuadrances r u v = ((3, [x, y, z]), 0) ∧ (!(r == 0)) = true ∧ (wI (wI (wI (x * x) - wI (y * y)) - wI (z * z))).tmod r = 0 := by
  unfold i_ThreeQuadrances i_ThreeQuadrances_c1 at h ⊢
  by_cases e : i_asked r true (i_arePoints r [u, v]) = 0
  · obtain ⟨hf, hb⟩ := asked_zero e
    simp only [i_arePoints, List.all_cons, List.all_nil, Bool.and_true, Bool.and_eq_true] at hb
    have hp := i_IsField_ok hf
    obtain ⟨K, inst, φ, H⟩ := hom_of hf
    have a1 := Vl.of (φ := φ) (isPoint_num hb.1).1; have a2 := Vl.of (φ := φ) (isPoint_num hb.1).2
    have b1 := Vl.of (φ := φ) (isPoint_num hb.2).1; have b2 := Vl.of (φ := φ) (isPoint_num hb.2).2
    have q0 := vl_quadrance H hf isC0 a1 a2 b1 b2
    have q1 := vl_quadrance H hf isC1 a1 a2 b1 b2
    have q2 := vl_quadrance H hf isC2 a1 a2 b1 b2
    rw [e]
    refine ⟨_, _, _, rfl, by simpa using hp.ne, ?_⟩
    rw [wI_eq, wI_eq, wI_eq, wI_eq, wI_eq, tmod_zero H]
    have r1 := Rw.sub H (Rw.sub H (Rw.mul H (Vl.rw hp q0) (Vl.rw hp q0) (by decide)) (Rw.mul H (Vl.rw hp q1) (Vl.rw hp q1) (by decide)) (by decide)) (Rw.mul H (Vl.rw hp q2) (Vl.rw hp q2) (by decide)) (by decide)
    rw [r1.2]
    simp [prodK]
    grind
  · rw [if_pos (by simpa using e)] at h
    exact absurd (by simpa using h) e
theorem mid_of {p : Int} {a b c : P2} (hf : i_IsField p = true) (ha : i_isPoint p a = true) (hb : i_isPoint p b = true) (hc : i_isPoint p c = true) (h : ∀ {K : Type} [Lean.Grind.Field K] {φ : Int → K}, Hom p K φ → 2 * φ c.1 = φ a.1 + φ b.1 ∧ 2 * φ c.2 = φ a.2 + φ b.2) : i_MidpointOf p a b = (c, 0) := by
  obtain ⟨K, inst, φ, H⟩ := hom_of hf
  have e : i_asked p true (i_arePoints p [a, b]) = 0 := by unfold i_asked i_arePoints; simp [hf, ha, hb]
  obtain ⟨X, Y, v1, v2, e1, e2⟩ := vl_mid H hf (Vl.of (φ := φ) (isPoint_num ha).1) (Vl.of (φ := φ) (isPoint_num ha).2) (Vl.of (φ := φ) (isPoint_num hb).1) (Vl.of (φ := φ) (isPoint_num hb).2)
  obtain ⟨h1, h2⟩ := h H
  have t2 := H.two_ne hf
  have c1 := Vl.of (φ := φ) (isPoint_num hc).1
  have c2 := Vl.of (φ := φ) (isPoint_num hc).2
  unfold i_MidpointOf i_MidpointOf_c1
  rw [e, pair_eq (a := i_midpoint p a b) (b := c) ((Vl.eq_iff H v1 c1).2 (by grind)) ((Vl.eq_iff H v2 c2).2 (by grind))]
  rfl
theorem omega_vals {p : Int} {a b c : P2} (h : i_triangle p 0 a b c = 0) {K : Type} [Lean.Grind.Field K] {φ : Int → K} (H : Hom p K φ) :
    (φ (s_l04Orthocentre p 0 a b c).1 + φ (s_l04Orthocentre p 1 a b c).1 + φ (s_l04Orthocentre p 2 a b c).1 = φ a.1 + φ b.1 + φ c.1 ∧ φ (s_l04Orthocentre p 0 a b c).2 + φ (s_l04Orthocentre p 1 a b c).2 + φ (s_l04Orthocentre p 2 a b c).2 = φ a.2 + φ b.2 + φ c.2) ∧
    ∀ k, isC k → φ (s_l04Orthocentre p k a b c).1 + 2 * φ (s_l04Circumcentre p k a b c).1 = φ a.1 + φ b.1 + φ c.1 ∧ φ (s_l04Orthocentre p k a b c).2 + 2 * φ (s_l04Circumcentre p k a b c).2 = φ a.2 + φ b.2 + φ c.2 := by
  obtain ⟨hf, _, ha, hb, hc, hn⟩ := tri_zero h
  have a1 := Vl.of (φ := φ) (isPoint_num ha).1; have a2 := Vl.of (φ := φ) (isPoint_num ha).2
  have b1 := Vl.of (φ := φ) (isPoint_num hb).1; have b2 := Vl.of (φ := φ) (isPoint_num hb).2
  have c1 := Vl.of (φ := φ) (isPoint_num hc).1; have c2 := Vl.of (φ := φ) (isPoint_num hc).2
  have T := tri_of H h
  refine ⟨?_, fun k hk => ?_⟩
  · obtain ⟨X0, Y0, u0, v0, p0, q0⟩ := vl_orthocentre H hf isC0 a1 a2 b1 b2 c1 c2 T
    obtain ⟨X1, Y1, u1, v1, p1, q1⟩ := vl_orthocentre H hf isC1 a1 a2 b1 b2 c1 c2 T
    obtain ⟨X2, Y2, u2, v2, p2, q2⟩ := vl_orthocentre H hf isC2 a1 a2 b1 b2 c1 c2 T
    rw [u0.2, v0.2, u1.2, v1.2, u2.2, v2.2]
    exact omega_id T p0 q0 p1 q1 p2 q2
  · obtain ⟨X, Y, v1, v2, o1, o2⟩ := vl_orthocentre H hf hk a1 a2 b1 b2 c1 c2 T
    obtain ⟨U, V, w1, w2, q1, q2⟩ := (circumcentre_same H hf hk a1 a2 b1 b2 c1 c2 T).2
    rw [v1.2, v2.2, w1.2, w2.2]
    exact euler_id hk T o1 o2 q1 q2
theorem col_mids {p : Int} {a b c : P2} (h : i_triangle p 0 a b c = 0) :
    i_MidpointOf p (s_l04Orthocentre p 1 a b c) (s_l04Orthocentre p 2 a b c) = (s_l04Circumcentre p 0 a b c, 0) ∧ i_MidpointOf p (s_l04Orthocentre p 2 a b c) (s_l04Orthocentre p 0 a b c) = (s_l04Circumcentre p 1 a b c, 0) ∧ i_MidpointOf p (s_l04Orthocentre p 0 a b c) (s_l04Orthocentre p 1 a b c) = (s_l04Circumcentre p 2 a b c, 0) := by
  have hf := (tri_zero h).1
  refine ⟨mid_of hf (ortho_pt h isC1) (ortho_pt h isC2) (circum_pt h isC0) fun H => ?_, mid_of hf (ortho_pt h isC2) (ortho_pt h isC0) (circum_pt h isC1) fun H => ?_, mid_of hf (ortho_pt h isC0) (ortho_pt h isC1) (circum_pt h isC2) fun H => ?_⟩
  · obtain ⟨⟨e1, e2⟩, k⟩ := omega_vals h H
    obtain ⟨f1, f2⟩ := k 0 isC0
    exact ⟨by grind, by grind⟩
  · obtain ⟨⟨e1, e2⟩, k⟩ := omega_vals h H
    obtain ⟨f1, f2⟩ := k 1 isC1
    exact ⟨by grind, by grind⟩
  · obtain ⟨⟨e1, e2⟩, k⟩ := omega_vals h H
    obtain ⟨f1, f2⟩ := k 2 isC2
    exact ⟨by grind, by grind⟩
theorem col_centroid {p : Int} {a b c : P2} (h : i_triangle p 0 a b c = 0) (h3 : p ≠ 3) (hd : i_area p (s_l04Orthocentre p 0 a b c) (s_l04Orthocentre p 1 a b c) (s_l04Orthocentre p 2 a b c) ≠ 0) : i_CentroidOf p (s_l04Orthocentre p 0 a b c) (s_l04Orthocentre p 1 a b c) (s_l04Orthocentre p 2 a b c) = ((i_CentroidOf p a b c).1, 0) := by
  obtain ⟨hf, _, ha, hb, hc, hn⟩ := tri_zero h
  have ht : i_triangle p 0 (s_l04Orthocentre p 0 a b c) (s_l04Orthocentre p 1 a b c) (s_l04Orthocentre p 2 a b c) = 0 := by
    have e : i_asked p true (i_arePoints p [s_l04Orthocentre p 0 a b c, s_l04Orthocentre p 1 a b c, s_l04Orthocentre p 2 a b c]) = 0 := by
      unfold i_asked i_arePoints
      simp [hf, ortho_pt h isC0, ortho_pt h isC1, ortho_pt h isC2]
    unfold i_triangle i_triangle_c1
    rw [show i_isColour 0 = true from rfl, if_pos rfl, e]
    simp [hd]
  obtain ⟨K, inst, φ, H⟩ := hom_of hf
  have w := fun x (hx : i_isPoint p x = true) => Vl.of (φ := φ) (isPoint_num hx).1
  have z := fun x (hx : i_isPoint p x = true) => Vl.of (φ := φ) (isPoint_num hx).2
  obtain ⟨_, g1, g2⟩ := centroid_of H hf h3 (w _ ha) (z _ ha) (w _ hb) (z _ hb) (w _ hc) (z _ hc) h
  obtain ⟨k0, k1, k2⟩ := centroid_of H hf h3 (w _ (ortho_pt h isC0)) (z _ (ortho_pt h isC0)) (w _ (ortho_pt h isC1)) (z _ (ortho_pt h isC1)) (w _ (ortho_pt h isC2)) (z _ (ortho_pt h isC2)) ht
  obtain ⟨⟨e1, e2⟩, _⟩ := omega_vals h H
  rw [e1] at k1
  rw [e2] at k2
  exact Prod.ext (pair_eq (Vl.inj H k1 g1) (Vl.inj H k2 g2)) k0
theorem col_lines {p : Int} {a b c : P2} (h3 : p ≠ 3) {k : Nat} (hk : k < (i_ThreeEulerLines p a b c).1.1) : i_IsOnLine p (i_CentroidOf p a b c).1 (R3 (i_ThreeEulerLines p a b c).1.2 k) = (true, 0) := by
  unfold i_ThreeEulerLines at hk ⊢
  by_cases e0 : (i_EulerLineOf p 0 a b c).2 = 0
  · by_cases e1 : (i_EulerLineOf p 1 a b c).2 = 0
    · by_cases e2 : (i_EulerLineOf p 2 a b c).2 = 0
      · rw [e0, e1, e2] at hk ⊢
        rw [if_neg (by decide), if_neg (by decide), if_neg (by decide)] at hk ⊢
        dsimp only at hk ⊢
        obtain rfl | rfl | rfl : k = 0 ∨ k = 1 ∨ k = 2 := by omega
        · exact euler_on isC0 h3 e0
        · exact euler_on isC1 h3 e1
        · exact euler_on isC2 h3 e2
      · simp [e0, e1, e2] at hk
    · simp [e0, e1] at hk
  · simp [e0] at hk
theorem EulerLines_max (p : Int) (a b c : P2) : (i_ThreeEulerLines p a b c).1.1 ≤ 3 := by
  unfold i_ThreeEulerLines
  repeat' split
  all_goals first | exact Nat.zero_le _ | exact Nat.le_refl _
theorem FnColours_tot (n : Nat) (l : List Int) (hp : bytB n l = true) : Fo_l_FnColours 1000000 n l = some true := by
  unfold Fo_l_FnColours G_l_FnColours
  refine br_step (fun _ => rfl) (fun hb => ?_)
  have hc := code_big hp hb
  have A1 : k4_1 n l = k4_2 n l := OmegaPoints_same _ _ _ _
  have A2 : (lenB (k4_1 n l).1.1 2 (k4_1 n l).1.2 && lenB (k4_2 n l).1.1 2 (k4_2 n l).1.2) = true := by
    have := OmegaPoints_len (k4_0 n l).1 (k4_0 n l).2.1 (k4_0 n l).2.2.1 (k4_0 n l).2.2.2
    rw [A1]
    exact and_two this this
  have A3 : k4_3 n l = true := by
    show l_points9 (k4_1 n l).1.1 (k4_1 n l).1.2 (k4_2 n l).1.1 (k4_2 n l).1.2 = true
    rw [A1]
    exact points9_self _ _
  have B1 : k4_4 n l = k4_5 n l := ThreeCircumcentres_same _ _ _ _
  have B2 : (lenB (k4_4 n l).1.1 2 (k4_4 n l).1.2 && lenB (k4_5 n l).1.1 2 (k4_5 n l).1.2) = true := by
    have := ThreeCircumcentres_len (k4_0 n l).1 (k4_0 n l).2.1 (k4_0 n l).2.2.1 (k4_0 n l).2.2.2
    rw [B1]
    exact and_two this this
  have B3 : k4_6 n l = true := by
    show l_points9 (k4_4 n l).1.1 (k4_4 n l).1.2 (k4_5 n l).1.1 (k4_5 n l).1.2 = true
    rw [B1]
    exact points9_self _ _
  have C1 : k4_7 n l = k4_8 n l := ThreeEulerLines_same _ _ _ _
  have C0 := ThreeEulerLines_len (k4_0 n l).1 (k4_0 n l).2.1 (k4_0 n l).2.2.1 (k4_0 n l).2.2.2
  have C2 : (lenB (k4_7 n l).1.1 3 (k4_7 n l).1.2 && lenB (k4_8 n l).1.1 3 (k4_8 n l).1.2) = true := by
    rw [C1]
    exact and_two C0 C0
  have C3 : k4_9 n l = true := by
    show l_lines9 (k4_7 n l).1.1 (k4_7 n l).1.2 (k4_8 n l).1.1 (k4_8 n l).1.2 = true
    rw [C1]
    exact lines9_self _ _
  have D1 : k4_10 n l = k4_11 n l := OmegaDouble_same _ _ _ _
  have Q1 : k4_13 n l = k4_14 n l := ThreeQuadrances_same _ _ _
  have Q2 : (lenB (k4_13 n l).1.1 1 (k4_13 n l).1.2 && lenB (k4_14 n l).1.1 1 (k4_14 n l).1.2) = true := by
    have := ThreeQuadrances_len (k4_12 n l).1 (k4_12 n l).2.1 (k4_12 n l).2.2
    rw [Q1]
    exact and_two this this
  have Q3 : k4_15 n l = true := by
    show l_likeInts (k4_13 n l).1.1 (k4_13 n l).1.2 (k4_14 n l).1.1 (k4_14 n l).1.2 = true
    rw [Q1]
    exact like_self _ _
  have Q4 : ((k4_13 n l).2 == 0) = true → ∃ x y z, k4_13 n l = ((3, [x, y, z]), 0) ∧ (!((k4_12 n l).1 == 0)) = true ∧ (wI (wI (wI (x * x) - wI (y * y)) - wI (z * z))).tmod (k4_12 n l).1 = 0 := fun h => three_sq h
  have A1b := congrArg Prod.snd A1
  have B1b := congrArg Prod.snd B1
  have C1b := congrArg Prod.snd C1
  have D1a := congrArg Prod.fst D1
  have D1b := congrArg Prod.snd D1
  have Q1b := congrArg Prod.snd Q1
  have hlen : (k4_7 n l).1.2.length = 3 * (k4_7 n l).1.1 := by rw [C1]; exact (lenB_ok C0).1
  have hmax : (k4_7 n l).1.1 ≤ 3 := EulerLines_max _ _ _ _
  by_cases ht : i_triangle (k4_0 n l).1 0 (k4_0 n l).2.1 (k4_0 n l).2.2.1 (k4_0 n l).2.2.2 = 0
  rotate_left
  · have E1 : (k4_1 n l).1.1 = 0 ∧ (k4_1 n l).2 = i_triangle (k4_0 n l).1 0 (k4_0 n l).2.1 (k4_0 n l).2.2.1 (k4_0 n l).2.2.2 := by
      show (i_OmegaPoints _ _ _ _).1.1 = 0 ∧ (i_OmegaPoints _ _ _ _).2 = _
      unfold i_OmegaPoints
      rw [if_pos (by simpa using ht)]
      exact ⟨rfl, rfl⟩
    have E4 : (k4_4 n l).2 = i_triangle (k4_0 n l).1 0 (k4_0 n l).2.1 (k4_0 n l).2.2.1 (k4_0 n l).2.2.2 := by
      show (i_ThreeCircumcentres _ _ _ _).2 = _
      unfold i_ThreeCircumcentres
      rw [if_pos (by simpa using ht)]
    have E10 : (k4_10 n l).2 = i_triangle (k4_0 n l).1 0 (k4_0 n l).2.1 (k4_0 n l).2.2.1 (k4_0 n l).2.2.2 := by
      show (i_OmegaDouble _ _ _ _).2 = _
      unfold i_OmegaDouble
      rw [if_pos (by simpa using ht)]
    have F1 : ((k4_1 n l).2 != 0) = true := by rw [E1.2]; simpa using ht
    have F2 : ((((k4_1 n l).1.1 : Nat) : Int) == 0) = true := by rw [E1.1]; rfl
    have F3 : ((k4_4 n l).2 == (k4_1 n l).2) = true := by rw [E4, E1.2]; exact beq_self_eq_true _
    have F4 : ((k4_10 n l).2 == (k4_1 n l).2) = true := by rw [E10, E1.2]; exact beq_self_eq_true _
    clear E1 E4 E10 ht
    repeat' (first
      | with_reducible exact end_step F4
      | with_reducible refine ck_step hc ?_
      | with_reducible refine ck_step F1 ?_
      | with_reducible refine ck_step F2 ?_
      | with_reducible refine ck_step F3 ?_
      | with_reducible refine ne_step A1b ?_
      | with_reducible refine ck_step A2 ?_
      | with_reducible refine nt_step A3 ?_
      | with_reducible refine ne_step B1b ?_
      | with_reducible refine ck_step B2 ?_
      | with_reducible refine nt_step B3 ?_
      | with_reducible refine ne_step C1b ?_
      | with_reducible refine ck_step C2 ?_
      | with_reducible refine nt_step C3 ?_
      | with_reducible refine ne_step D1b ?_
      | with_reducible refine ne_step D1a ?_
      | with_reducible refine ne_step Q1b ?_
      | with_reducible refine ck_step Q2 ?_
      | with_reducible refine nt_step Q3 ?_
      | (with_reducible refine br_step (c := (k4_13 n l).2 == 0) (fun h5 => ?_) (fun _ => ?_))
      | (obtain ⟨x, y, z, e5, e6, e7⟩ := Q4 ‹((k4_13 n l).2 == 0) = true›; rw [e5]
         refine ck_step (by rfl) ?_
         refine ck_step (by rfl) ?_
         refine ck_step (by rfl) ?_
         refine ck_step (by rfl) ?_
         refine ck_step (by rfl) ?_
         refine ck_step (by rfl) ?_
         refine ck_step (by rfl) ?_
         refine ck_step (by rfl) ?_
         refine ck_step (by rfl) ?_
         refine ck_step (by rfl) ?_
         refine ck_step (by rfl) ?_
         refine ck_step (by rfl) ?_
         refine ck_step e6 ?_
         refine ne_step e7 ?_))
  · have E1 : k4_1 n l = ((3, [(s_l04Orthocentre (k4_0 n l).1 0 (k4_0 n l).2.1 (k4_0 n l).2.2.1 (k4_0 n l).2.2.2).1, (s_l04Orthocentre (k4_0 n l).1 0 (k4_0 n l).2.1 (k4_0 n l).2.2.1 (k4_0 n l).2.2.2).2, (s_l04Orthocentre (k4_0 n l).1 1 (k4_0 n l).2.1 (k4_0 n l).2.2.1 (k4_0 n l).2.2.2).1, (s_l04Orthocentre (k4_0 n l).1 1 (k4_0 n l).2.1 (k4_0 n l).2.2.1 (k4_0 n l).2.2.2).2, (s_l04Orthocentre (k4_0 n l).1 2 (k4_0 n l).2.1 (k4_0 n l).2.2.1 (k4_0 n l).2.2.2).1, (s_l04Orthocentre (k4_0 n l).1 2 (k4_0 n l).2.1 (k4_0 n l).2.2.1 (k4_0 n l).2.2.2).2]), 0) := by
      show i_OmegaPoints _ _ _ _ = _
      unfold i_OmegaPoints i_omegaPoints
      rw [if_neg (by simpa using ht), ortho_eq ht isC0, ortho_eq ht isC1, ortho_eq ht isC2]
    have E4 : k4_4 n l = ((3, [(s_l04Circumcentre (k4_0 n l).1 0 (k4_0 n l).2.1 (k4_0 n l).2.2.1 (k4_0 n l).2.2.2).1, (s_l04Circumcentre (k4_0 n l).1 0 (k4_0 n l).2.1 (k4_0 n l).2.2.1 (k4_0 n l).2.2.2).2, (s_l04Circumcentre (k4_0 n l).1 1 (k4_0 n l).2.1 (k4_0 n l).2.2.1 (k4_0 n l).2.2.2).1, (s_l04Circumcentre (k4_0 n l).1 1 (k4_0 n l).2.1 (k4_0 n l).2.2.1 (k4_0 n l).2.2.2).2, (s_l04Circumcentre (k4_0 n l).1 2 (k4_0 n l).2.1 (k4_0 n l).2.2.1 (k4_0 n l).2.2.2).1, (s_l04Circumcentre (k4_0 n l).1 2 (k4_0 n l).2.1 (k4_0 n l).2.2.1 (k4_0 n l).2.2.2).2]), 0) := by
      show i_ThreeCircumcentres _ _ _ _ = _
      unfold i_ThreeCircumcentres
      rw [if_neg (by simpa using ht), circum_eq ht isC0, circum_eq ht isC1, circum_eq ht isC2]
    have E10 : k4_10 n l = (i_area (k4_0 n l).1 (s_l04Orthocentre (k4_0 n l).1 0 (k4_0 n l).2.1 (k4_0 n l).2.2.1 (k4_0 n l).2.2.2) (s_l04Orthocentre (k4_0 n l).1 1 (k4_0 n l).2.1 (k4_0 n l).2.2.1 (k4_0 n l).2.2.2) (s_l04Orthocentre (k4_0 n l).1 2 (k4_0 n l).2.1 (k4_0 n l).2.2.1 (k4_0 n l).2.2.2), 0) := by
      show i_OmegaDouble _ _ _ _ = _
      unfold i_OmegaDouble i_omegaPoints
      rw [if_neg (by simpa using ht), ortho_eq ht isC0, ortho_eq ht isC1, ortho_eq ht isC2]
      rfl
    obtain ⟨m0, m1, m2⟩ := col_mids ht
    have M0 : k4_16 n l = (s_l04Circumcentre (k4_0 n l).1 0 (k4_0 n l).2.1 (k4_0 n l).2.2.1 (k4_0 n l).2.2.2, 0) := by
      delta k4_16
      rw [E1]
      exact m0
    have M1 : k4_17 n l = (s_l04Circumcentre (k4_0 n l).1 1 (k4_0 n l).2.1 (k4_0 n l).2.2.1 (k4_0 n l).2.2.2, 0) := by
      delta k4_17
      rw [E1]
      exact m1
    have M2 : k4_18 n l = (s_l04Circumcentre (k4_0 n l).1 2 (k4_0 n l).2.1 (k4_0 n l).2.2.1 (k4_0 n l).2.2.2, 0) := by
      delta k4_18
      rw [E1]
      exact m2
    have lo : ((k4_0 n l).1 == 3) = false → ∀ F, (k4_7 n l).1.1 < F → L_l_FnColours_0 1000000 n l F 0 = some true := by
      intro h3 F hF
      have h3' : (k4_0 n l).1 ≠ 3 := by simpa using h3
      refine walk_loop (L := fun f i => L_l_FnColours_0 1000000 n l f i) (n := (k4_7 n l).1.1) hF (fun f k hk hr => ?_) (fun f => ?_)
      · show B_l_FnColours_0 n l (L_l_FnColours_0 1000000 n l f) (k : Int) = some true
        unfold B_l_FnColours_0
        rw [wrap_add1 hk (by omega)]
        have on := col_lines (p := (k4_0 n l).1) (a := (k4_0 n l).2.1) (b := (k4_0 n l).2.2.1) (c := (k4_0 n l).2.2.2) h3' hk
        refine ck_step (cnd hk) ?_
        refine ck_step (cnd2 hk) ?_
        refine ck_step (by rw [Int.toNat_natCast]; exact row3_ok hlen hk) ?_
        refine ne_step (congrArg Prod.snd on) ?_
        refine nt_step (congrArg Prod.fst on) ?_
        exact hr
      · show B_l_FnColours_0 n l (L_l_FnColours_0 1000000 n l f) (((k4_7 n l).1.1 : Nat) : Int) = some true
        unfold B_l_FnColours_0
        refine no_step (cndE _) ?_
        refine br_step (fun hd => ?_) (fun _ => rfl)
        have X : k4_21 n l = ((k4_19 n l).1, 0) := by
          delta k4_21
          rw [E1]
          rw [E10] at hd
          exact col_centroid ht h3' (by simpa using hd)
        refine ck_step (by rw [E1]; rfl) ?_
        refine ck_step (by rw [E1]; rfl) ?_
        refine ck_step (by rw [E1]; rfl) ?_
        refine ck_step (by rw [E1]; rfl) ?_
        refine ck_step (by rw [E1]; rfl) ?_
        refine ck_step (by rw [E1]; rfl) ?_
        refine ck_step (by rw [X]; rfl) ?_
        rw [X]
        exact end_step (beq_self_eq_true _)
    have F1 : ((k4_1 n l).2 != 0) = false := by rw [E1]; rfl
    have F4 : (k4_4 n l).2 = 0 := by rw [E4]
    have F10 : (k4_10 n l).2 = 0 := by rw [E10]
    have F19 : ((k4_0 n l).1 == 3) = false → (k4_19 n l).2 = 0 := by
      intro h3
      obtain ⟨hf, _, ha, hb', hc', _⟩ := tri_zero ht
      obtain ⟨K, inst, φ, H⟩ := hom_of hf
      exact (centroid_of H hf (by simpa using h3) (Vl.of (φ := φ) (isPoint_num ha).1) (Vl.of (φ := φ) (isPoint_num ha).2) (Vl.of (φ := φ) (isPoint_num hb').1) (Vl.of (φ := φ) (isPoint_num hb').2) (Vl.of (φ := φ) (isPoint_num hc').1) (Vl.of (φ := φ) (isPoint_num hc').2) ht).1
    have H1 : ∀ i : Nat, i ≤ 6 → Nat.ble i (k4_1 n l).1.2.length = true := fun i h => by rw [E1]; exact ble_ok h
    have H4 : ∀ i : Nat, i ≤ 6 → Nat.ble i (k4_4 n l).1.2.length = true := fun i h => by rw [E4]; exact ble_ok h
    have G10 : (decide (0 ≤ 0) && decide (0 < (((k4_1 n l).1.1 : Nat) : Int))) = true := by rw [E1]; rfl
    have G11 : (decide (0 ≤ 1) && decide (1 < (((k4_1 n l).1.1 : Nat) : Int))) = true := by rw [E1]; rfl
    have G12 : (decide (0 ≤ 2) && decide (2 < (((k4_1 n l).1.1 : Nat) : Int))) = true := by rw [E1]; rfl
    have G40 : (decide (0 ≤ 0) && decide (0 < (((k4_4 n l).1.1 : Nat) : Int))) = true := by rw [E4]; rfl
    have G41 : (decide (0 ≤ 1) && decide (1 < (((k4_4 n l).1.1 : Nat) : Int))) = true := by rw [E4]; rfl
    have G42 : (decide (0 ≤ 2) && decide (2 < (((k4_4 n l).1.1 : Nat) : Int))) = true := by rw [E4]; rfl
    have H12 := H1 2 (by decide)
    have H14 := H1 4 (by decide)
    have H16 := H1 6 (by decide)
    have H42 := H4 2 (by decide)
    have H44 := H4 4 (by decide)
    have H46 := H4 6 (by decide)
    have M0a := congrArg Prod.snd M0
    have M1a := congrArg Prod.snd M1
    have M2a := congrArg Prod.snd M2
    have M0b : ((k4_16 n l).1 == ((k4_4 n l).1.2.getD 0 0, (k4_4 n l).1.2.getD 1 0)) = true := by rw [M0, E4]; exact beq_self_eq_true _
    have M1b : ((k4_17 n l).1 == ((k4_4 n l).1.2.getD 2 0, (k4_4 n l).1.2.getD 3 0)) = true := by rw [M1, E4]; exact beq_self_eq_true _
    have M2b : ((k4_18 n l).1 == ((k4_4 n l).1.2.getD 4 0, (k4_4 n l).1.2.getD 5 0)) = true := by rw [M2, E4]; exact beq_self_eq_true _
    clear E1 E4 E10 m0 m1 m2 M0 M1 M2
    repeat' (first
      | (with_reducible exact lo ‹((k4_0 n l).1 == 3) = false› _ (Nat.lt_of_le_of_lt hmax (by decide)))
      | (with_reducible (first | rw [same_l_FnColours_1]); exact lo ‹((k4_0 n l).1 == 3) = false› _ (Nat.lt_of_le_of_lt hmax (by decide)))
      | with_reducible refine ck_step hc ?_
      | with_reducible refine no_step F1 ?_
      | with_reducible refine ne_step A1b ?_
      | with_reducible refine ck_step A2 ?_
      | with_reducible refine nt_step A3 ?_
      | with_reducible refine ne_step B1b ?_
      | with_reducible refine ck_step B2 ?_
      | with_reducible refine nt_step B3 ?_
      | with_reducible refine ne_step C1b ?_
      | with_reducible refine ck_step C2 ?_
      | with_reducible refine nt_step C3 ?_
      | with_reducible refine ne_step D1b ?_
      | with_reducible refine ne_step D1a ?_
      | with_reducible refine ne_step Q1b ?_
      | with_reducible refine ck_step Q2 ?_
      | with_reducible refine nt_step Q3 ?_
      | with_reducible refine ne_step F4 ?_
      | with_reducible refine ne_step F10 ?_
      | with_reducible refine ck_step G10 ?_
      | with_reducible refine ck_step G11 ?_
      | with_reducible refine ck_step G12 ?_
      | with_reducible refine ck_step G40 ?_
      | with_reducible refine ck_step G41 ?_
      | with_reducible refine ck_step G42 ?_
      | with_reducible refine ck_step H12 ?_
      | with_reducible refine ck_step H14 ?_
      | with_reducible refine ck_step H16 ?_
      | with_reducible refine ck_step H42 ?_
      | with_reducible refine ck_step H44 ?_
      | with_reducible refine ck_step H46 ?_
      | with_reducible refine ne_step M0a ?_
      | with_reducible refine ne_step M1a ?_
      | with_reducible refine ne_step M2a ?_
      | with_reducible refine nt_step M0b ?_
      | with_reducible refine nt_step M1b ?_
      | with_reducible refine nt_step M2b ?_
      | with_reducible refine ne_step (F19 ‹((k4_0 n l).1 == 3) = false›) ?_
      | (with_reducible refine br_step (c := (k4_0 n l).1 == 3) (fun _ => rfl) (fun h3 => ?_))
      | (with_reducible refine br_step (c := (k4_13 n l).2 == 0) (fun h5 => ?_) (fun _ => ?_))
      | (obtain ⟨x, y, z, e5, e6, e7⟩ := Q4 ‹((k4_13 n l).2 == 0) = true›; rw [e5]
         refine ck_step (by rfl) ?_
         refine ck_step (by rfl) ?_
         refine ck_step (by rfl) ?_
         refine ck_step (by rfl) ?_
         refine ck_step (by rfl) ?_
         refine ck_step (by rfl) ?_
         refine ck_step (by rfl) ?_
         refine ck_step (by rfl) ?_
         refine ck_step (by rfl) ?_
         refine ck_step (by rfl) ?_
         refine ck_step (by rfl) ?_
         refine ck_step (by rfl) ?_
         refine ck_step e6 ?_
         refine ne_step e7 ?_))

def l_FnColours (coden : Nat) (codel : List Int) : Bool := true
theorem tot_l_FnColours (coden : Nat) (codel : List Int) (hp : (bytB coden codel) = true) : Fo_l_FnColours 1000000 coden codel = some (l_FnColours coden codel) := by
  exact FnColours_tot coden codel hp
def run_l_FnColours : List PV → Option (Bool × List TR)
  | [.s coden (.byts codel)] => some (bytB coden codel, enc_b (l_FnColours coden codel))
  | _ => none
theorem sound_l_FnColours : Sound Try.prog 4 run_l_FnColours := by
  refine sound_of de_b SO_l_FnColours (by kernel_rfl) Try.func4 Try.ntmps4 rfl (by kernel_rfl) ?_
  intro W pvs avs rs hargs hrun
  unfold run_l_FnColours at hrun
  split at hrun
  · simp only [Option.some.injEq, Prod.mk.injEq] at hrun
    obtain ⟨hp, rfl⟩ := hrun
    rename_i coden codel
    exact ⟨_, _, _, hargs, rfl, (eq_l_FnColours _ coden codel).trans (tot_l_FnColours coden codel hp)⟩
  · cases hrun


end

end Go.Proofs.Ytpopgdmnajngjaa
