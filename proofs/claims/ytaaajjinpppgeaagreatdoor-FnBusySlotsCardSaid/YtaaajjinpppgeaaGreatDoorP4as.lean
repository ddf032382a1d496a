/- Part 19 of the texts of a claim, joined by a program of ours (Mm9, Bl, Dp, Bk, Mm10, Mm11, Mm12, Mm13). No condition. -/
import Derived.Test.YtaaajjinpppgeaaGreatDoorP4ar
set_option linter.unusedVariables false
set_option linter.unusedSimpArgs false
set_option linter.unusedSectionVars false
namespace Go.Proofs.YtaaajjinpppgeaaGreatDoor
open Go Go.Abs
set_option maxRecDepth 100000
def A9 : List AV := [D5]
def R9 : AV := D17
def tbl9 : List (Nat × CF) := (51, .orc (memoG [(A3, R3), (A4, R4), (A5, R5), (A6, R6), (A7, R7), (A8, R8)])) :: tblB
theorem tbl9_ok : TblOk TB tbl9 := ⟨memo_ok (fun p hp => by simp only [List.mem_cons, List.not_mem_nil, or_false] at hp; rcases hp with rfl | rfl | rfl | rfl | rfl | rfl <;> first | exact m3 | exact m4 | exact m5 | exact m6 | exact m7 | exact m8), tblB_ok⟩
theorem m9 : E TB 10 A9 [] = some (R9, []) := crun_ok tbl9_ok (fuel := 5000) (n := 60) (by kernel_rfl)
end Go.Proofs.YtaaajjinpppgeaaGreatDoor
namespace Go.Proofs.YtaaajjinpppgeaaGreatDoor
open Go Go.Abs
set_option maxRecDepth 100000
def b3 : EC := sqR (sqR C4.body)
def b4 : EC := sqR b3
def b5 : EC := sqR b4
def b6 : EC := sqR b5
def b7 : EC := sqR b6
def b8 : EC := sqR b7
theorem body4 : C4.body = .seq (sqL C4.body) (.seq (.seq (sqL (sqL (sqR C4.body))) (sqR (sqL (sqR C4.body)))) b3) := by kernel_rfl
theorem b3_eq : b3 = .seq (sqL b3) b4 := by kernel_rfl
theorem b4_eq : b4 = .seq (sqL b4) b5 := by kernel_rfl
theorem b5_eq : b5 = .seq (sqL b5) b6 := by kernel_rfl
theorem b6_eq : b6 = .seq (sqL b6) b7 := by kernel_rfl
theorem b7_eq : b7 = .seq (sqL b7) b8 := by kernel_rfl
def S2 (L : List AV) : CS := ⟨(.nd (.nd (.nd .lf .undef (.nd (.nd .lf (.bool false) .lf) .undef .lf)) .undef .lf) (.ro 1 L) (.nd .lf (.bool false) (.nd (.nd (.nd .lf (.ro 1 L) .lf) .undef .lf) .undef .lf))), []⟩
def S6 (L : List AV) : CS := ⟨(.nd (.nd (.nd (.nd (.nd (.nd .lf (.int .i64 (.ofNat 0)) .lf) .undef .lf) .undef (.nd .lf (.agg [(.sl 0 0 16), (.sl 1 0 8), (.sl 2 0 8), (.sl 3 0 16), (.sl 4 0 21), .nil, (.int .i64 (.ofNat 1))]) .lf)) (.ptr 6 0 0) (.nd (.nd (.nd .lf (.agg [(.sl 31 0 16), (.sl 32 0 8), (.sl 33 0 8), (.sl 34 0 16), (.sl 35 0 21), (.sl 36 0 3), (.int .i64 (.ofNat 4)), (.sl 5 0 21)]) .lf) (.bool false) .lf) .undef (.nd .lf (.tup [(.agg [(.sl 31 0 16), (.sl 32 0 8), (.sl 33 0 8), (.sl 34 0 16), (.sl 35 0 21), (.sl 36 0 3), (.int .i64 (.ofNat 4))]), (.int .i64 (.ofNat 0))]) .lf))) .undef (.nd (.nd (.nd (.nd .lf (.ptr 6 0 7) .lf) .undef .lf) .undef (.nd .lf (.agg [(.sl 15 0 16), (.sl 16 0 8), (.sl 17 0 8), (.sl 18 0 16), (.sl 19 0 21), (.sl 20 0 2), (.int .i64 (.ofNat 3))]) .lf)) (.int .i64 (.ofNat 0)) (.nd (.nd .lf (.tup [(.agg [(.sl 15 0 16), (.sl 16 0 8), (.sl 17 0 8), (.sl 18 0 16), (.sl 19 0 21), (.sl 20 0 2), (.int .i64 (.ofNat 3))]), (.int .i64 (.ofNat 0))]) .lf) .undef (.nd .lf (.tup [(.agg [(.sl 31 0 16), (.sl 32 0 8), (.sl 33 0 8), (.sl 34 0 16), (.sl 35 0 21), (.sl 36 0 3), (.int .i64 (.ofNat 4))]), (.int .i64 (.ofNat 0))]) .lf)))) (.ro 1 L) (.nd (.nd (.nd (.nd (.nd .lf (.agg [(.sl 31 0 16), (.sl 32 0 8), (.sl 33 0 8), (.sl 34 0 16), (.sl 35 0 21), (.sl 36 0 3), (.int .i64 (.ofNat 4))]) .lf) .undef .lf) .undef (.nd .lf (.tup [(.agg [(.sl 15 0 16), (.sl 16 0 8), (.sl 17 0 8), (.sl 18 0 16), (.sl 19 0 21), (.sl 20 0 2), (.int .i64 (.ofNat 3))]), (.int .i64 (.ofNat 0))]) .lf)) (.ptr 21 0 0) (.nd (.nd (.nd .lf (.agg [(.sl 46 0 16), (.sl 47 0 8), (.sl 48 0 8), (.sl 49 0 16), (.sl 50 0 21), .nil, (.int .i64 (.ofNat 4)), (.sl 51 0 21)]) .lf) (.agg [(.sl 0 0 16), (.sl 1 0 8), (.sl 2 0 8), (.sl 3 0 16), (.sl 4 0 21), .nil, (.int .i64 (.ofNat 1)), (.sl 5 0 21)]) .lf) .undef (.nd .lf (.agg [(.sl 15 0 16), (.sl 16 0 8), (.sl 17 0 8), (.sl 18 0 16), (.sl 19 0 21), (.sl 20 0 2), (.int .i64 (.ofNat 3))]) .lf))) (.bool false) (.nd (.nd (.nd (.nd .lf (.agg [(.sl 5 0 21)]) .lf) (.ro 1 L) .lf) .undef (.nd .lf (.int .i64 (.ofNat 0)) .lf)) .undef (.nd (.nd .lf (.ptr 6 0 0) .lf) .undef (.nd .lf (.agg [(.sl 31 0 16), (.sl 32 0 8), (.sl 33 0 8), (.sl 34 0 16), (.sl 35 0 21), (.sl 36 0 3), (.int .i64 (.ofNat 4))]) .lf))))), [some (1, [(.bool false), (.bool false), (.bool false), (.bool false), (.bool false), (.bool false), (.bool false), (.bool false), (.bool false), (.bool false), (.bool false), (.bool false), (.bool false), (.bool false), (.bool false), (.bool false)]), some (1, [(.bool true), (.bool false), (.bool false), (.bool false), (.bool false), (.bool false), (.bool false), (.bool false)]), some (3, [(.agg [(.int .i64 (.ofNat 2)), (.int .i64 (.ofNat 1)), (.sl 7 0 2)]), (.agg [(.int .i64 (.ofNat 0)), (.int .i64 (.ofNat 0)), (.sl 8 0 2)]), (.agg [(.int .i64 (.ofNat 0)), (.int .i64 (.ofNat 0)), (.sl 9 0 2)]), (.agg [(.int .i64 (.ofNat 0)), (.int .i64 (.ofNat 0)), (.sl 10 0 2)]), (.agg [(.int .i64 (.ofNat 0)), (.int .i64 (.ofNat 0)), (.sl 11 0 2)]), (.agg [(.int .i64 (.ofNat 0)), (.int .i64 (.ofNat 0)), (.sl 12 0 2)]), (.agg [(.int .i64 (.ofNat 0)), (.int .i64 (.ofNat 0)), (.sl 13 0 2)]), (.agg [(.int .i64 (.ofNat 0)), (.int .i64 (.ofNat 0)), (.sl 14 0 2)])]), some (3, [(.agg [(.bool false), .nil, (.str ⟨#[]⟩)]), (.agg [(.bool false), .nil, (.str ⟨#[]⟩)]), (.agg [(.bool false), .nil, (.str ⟨#[]⟩)]), (.agg [(.bool false), .nil, (.str ⟨#[]⟩)]), (.agg [(.bool false), .nil, (.str ⟨#[]⟩)]), (.agg [(.bool false), .nil, (.str ⟨#[]⟩)]), (.agg [(.bool false), .nil, (.str ⟨#[]⟩)]), (.agg [(.bool false), .nil, (.str ⟨#[]⟩)]), (.agg [(.bool false), .nil, (.str ⟨#[]⟩)]), (.agg [(.bool false), .nil, (.str ⟨#[]⟩)]), (.agg [(.bool false), .nil, (.str ⟨#[]⟩)]), (.agg [(.bool false), .nil, (.str ⟨#[]⟩)]), (.agg [(.bool false), .nil, (.str ⟨#[]⟩)]), (.agg [(.bool false), .nil, (.str ⟨#[]⟩)]), (.agg [(.bool false), .nil, (.str ⟨#[]⟩)]), (.agg [(.bool false), .nil, (.str ⟨#[]⟩)])]), some (1, [(.bool false), (.bool false), (.bool false), (.bool false), (.bool false), (.bool false), (.bool false), (.bool false), (.bool false), (.bool false), (.bool false), (.bool false), (.bool false), (.bool false), (.bool false), (.bool false), (.bool false), (.bool false), (.bool false), (.bool false), (.bool false)]), some (1, [(.str ⟨#[0, 0, 1]⟩), (.str ⟨#[2, 1, 0, 0, 0, 0, 0, 0]⟩), (.str ⟨#[0, 0, 0, 0, 0, 0, 0, 0]⟩), (.str ⟨#[0, 0, 0, 0, 0, 0, 0, 0]⟩), (.str ⟨#[0, 0, 0, 0, 0, 0, 0, 0]⟩), (.str ⟨#[116]⟩), (.str ⟨#[116]⟩), (.str ⟨#[116]⟩), (.str ⟨#[116]⟩), (.str ⟨#[116]⟩), (.str ⟨#[116]⟩), (.str ⟨#[116]⟩), (.str ⟨#[116]⟩), (.str ⟨#[116]⟩), (.str ⟨#[116]⟩), (.str ⟨#[116]⟩), (.str ⟨#[116]⟩), (.str ⟨#[116]⟩), (.str ⟨#[116]⟩), (.str ⟨#[116]⟩), (.str ⟨#[116]⟩)]), some (8, [(.agg [(.sl 46 0 16), (.sl 47 0 8), (.sl 48 0 8), (.sl 49 0 16), (.sl 50 0 21), .nil, (.int .i64 (.ofNat 4)), (.sl 51 0 21)])]), some (1, [(.int .i64 (.ofNat 0)), (.int .i64 (.ofNat 0))]), some (1, [(.int .i64 (.ofNat 0)), (.int .i64 (.ofNat 0))]), some (1, [(.int .i64 (.ofNat 0)), (.int .i64 (.ofNat 0))]), some (1, [(.int .i64 (.ofNat 0)), (.int .i64 (.ofNat 0))]), some (1, [(.int .i64 (.ofNat 0)), (.int .i64 (.ofNat 0))]), some (1, [(.int .i64 (.ofNat 0)), (.int .i64 (.ofNat 0))]), some (1, [(.int .i64 (.ofNat 0)), (.int .i64 (.ofNat 0))]), some (1, [(.int .i64 (.ofNat 0)), (.int .i64 (.ofNat 0))]), some (1, [(.bool true), (.bool false), (.bool false), (.bool false), (.bool false), (.bool false), (.bool false), (.bool false), (.bool false), (.bool false), (.bool false), (.bool false), (.bool false), (.bool false), (.bool false), (.bool false)]), some (1, [(.bool true), (.bool true), (.bool false), (.bool false), (.bool false), (.bool false), (.bool false), (.bool false)]), some (3, [(.agg [(.int .i64 (.ofNat 2)), (.int .i64 (.ofNat 1)), (.sl 22 0 2)]), (.agg [(.int .i64 (.ofNat 1)), (.int .i64 (.ofNat 1)), (.sl 23 0 2)]), (.agg [(.int .i64 (.ofNat 0)), (.int .i64 (.ofNat 0)), (.sl 24 0 2)]), (.agg [(.int .i64 (.ofNat 0)), (.int .i64 (.ofNat 0)), (.sl 25 0 2)]), (.agg [(.int .i64 (.ofNat 0)), (.int .i64 (.ofNat 0)), (.sl 26 0 2)]), (.agg [(.int .i64 (.ofNat 0)), (.int .i64 (.ofNat 0)), (.sl 27 0 2)]), (.agg [(.int .i64 (.ofNat 0)), (.int .i64 (.ofNat 0)), (.sl 28 0 2)]), (.agg [(.int .i64 (.ofNat 0)), (.int .i64 (.ofNat 0)), (.sl 29 0 2)])]), some (3, [(.agg [(.bool true), (.sl 30 0 4), (.str ⟨#[]⟩)]), (.agg [(.bool false), .nil, (.str ⟨#[]⟩)]), (.agg [(.bool false), .nil, (.str ⟨#[]⟩)]), (.agg [(.bool false), .nil, (.str ⟨#[]⟩)]), (.agg [(.bool false), .nil, (.str ⟨#[]⟩)]), (.agg [(.bool false), .nil, (.str ⟨#[]⟩)]), (.agg [(.bool false), .nil, (.str ⟨#[]⟩)]), (.agg [(.bool false), .nil, (.str ⟨#[]⟩)]), (.agg [(.bool false), .nil, (.str ⟨#[]⟩)]), (.agg [(.bool false), .nil, (.str ⟨#[]⟩)]), (.agg [(.bool false), .nil, (.str ⟨#[]⟩)]), (.agg [(.bool false), .nil, (.str ⟨#[]⟩)]), (.agg [(.bool false), .nil, (.str ⟨#[]⟩)]), (.agg [(.bool false), .nil, (.str ⟨#[]⟩)]), (.agg [(.bool false), .nil, (.str ⟨#[]⟩)]), (.agg [(.bool false), .nil, (.str ⟨#[]⟩)])]), some (1, [(.bool true), (.bool true), (.bool false), (.bool false), (.bool false), (.bool true), (.bool false), (.bool false), (.bool false), (.bool false), (.bool false), (.bool false), (.bool false), (.bool false), (.bool false), (.bool false), (.bool false), (.bool false), (.bool false), (.bool false), (.bool false)]), some (11, [(.agg [(.int .i64 (.ofNat 1)), (.int .i64 (.ofNat 1)), (.int .i64 (.ofNat 1)), (.int .i64 (.ofNat 0)), (.int .i64 (.ofNat 1)), (.int .i64 (.ofNat 0)), (.str ⟨#[]⟩), (.bool false), (.bool false), (.int .i64 (.ofNat 0)), .nil]), (.agg [(.int .i64 (.ofNat 2)), (.int .i64 (.ofNat 2)), (.int .i64 (.ofNat 2)), (.int .i64 (.ofNat 0)), (.int .i64 (.ofNat 1)), (.int .i64 (.ofNat 0)), (.str ⟨#[]⟩), (.bool false), (.bool false), (.int .i64 (.ofNat 0)), .nil])]), some (7, [(.agg [(.sl 31 0 16), (.sl 32 0 8), (.sl 33 0 8), (.sl 34 0 16), (.sl 35 0 21), (.sl 36 0 3), (.int .i64 (.ofNat 4))])]), some (1, [(.int .i64 (.ofNat 1)), (.int .i64 (.ofNat 0))]), some (1, [(.int .i64 (.ofNat 0)), (.int .i64 (.ofNat 0))]), some (1, [(.int .i64 (.ofNat 0)), (.int .i64 (.ofNat 0))]), some (1, [(.int .i64 (.ofNat 0)), (.int .i64 (.ofNat 0))]), some (1, [(.int .i64 (.ofNat 0)), (.int .i64 (.ofNat 0))]), some (1, [(.int .i64 (.ofNat 0)), (.int .i64 (.ofNat 0))]), some (1, [(.int .i64 (.ofNat 0)), (.int .i64 (.ofNat 0))]), some (1, [(.int .i64 (.ofNat 0)), (.int .i64 (.ofNat 0))]), some (2, [(.agg [(.str ⟨#[97]⟩), (.int .i64 (.ofNat 2))]), (.agg [(.str ⟨#[]⟩), (.int .i64 (.ofNat 0))]), (.agg [(.str ⟨#[]⟩), (.int .i64 (.ofNat 0))]), (.agg [(.str ⟨#[]⟩), (.int .i64 (.ofNat 0))])]), some (1, [(.bool true), (.bool false), (.bool false), (.bool false), (.bool false), (.bool false), (.bool false), (.bool false), (.bool false), (.bool false), (.bool false), (.bool false), (.bool false), (.bool false), (.bool false), (.bool false)]), some (1, [(.bool true), (.bool true), (.bool true), (.bool false), (.bool false), (.bool false), (.bool false), (.bool false)]), some (3, [(.agg [(.int .i64 (.ofNat 2)), (.int .i64 (.ofNat 1)), (.sl 37 0 2)]), (.agg [(.int .i64 (.ofNat 1)), (.int .i64 (.ofNat 1)), (.sl 38 0 2)]), (.agg [(.int .i64 (.ofNat 1)), (.int .i64 (.ofNat 1)), (.sl 39 0 2)]), (.agg [(.int .i64 (.ofNat 0)), (.int .i64 (.ofNat 0)), (.sl 40 0 2)]), (.agg [(.int .i64 (.ofNat 0)), (.int .i64 (.ofNat 0)), (.sl 41 0 2)]), (.agg [(.int .i64 (.ofNat 0)), (.int .i64 (.ofNat 0)), (.sl 42 0 2)]), (.agg [(.int .i64 (.ofNat 0)), (.int .i64 (.ofNat 0)), (.sl 43 0 2)]), (.agg [(.int .i64 (.ofNat 0)), (.int .i64 (.ofNat 0)), (.sl 44 0 2)])]), some (3, [(.agg [(.bool true), (.sl 45 0 4), (.str ⟨#[]⟩)]), (.agg [(.bool false), .nil, (.str ⟨#[]⟩)]), (.agg [(.bool false), .nil, (.str ⟨#[]⟩)]), (.agg [(.bool false), .nil, (.str ⟨#[]⟩)]), (.agg [(.bool false), .nil, (.str ⟨#[]⟩)]), (.agg [(.bool false), .nil, (.str ⟨#[]⟩)]), (.agg [(.bool false), .nil, (.str ⟨#[]⟩)]), (.agg [(.bool false), .nil, (.str ⟨#[]⟩)]), (.agg [(.bool false), .nil, (.str ⟨#[]⟩)]), (.agg [(.bool false), .nil, (.str ⟨#[]⟩)]), (.agg [(.bool false), .nil, (.str ⟨#[]⟩)]), (.agg [(.bool false), .nil, (.str ⟨#[]⟩)]), (.agg [(.bool false), .nil, (.str ⟨#[]⟩)]), (.agg [(.bool false), .nil, (.str ⟨#[]⟩)]), (.agg [(.bool false), .nil, (.str ⟨#[]⟩)]), (.agg [(.bool false), .nil, (.str ⟨#[]⟩)])]), some (1, [(.bool true), (.bool true), (.bool true), (.bool false), (.bool false), (.bool true), (.bool false), (.bool false), (.bool false), (.bool false), (.bool false), (.bool false), (.bool false), (.bool false), (.bool false), (.bool false), (.bool false), (.bool false), (.bool false), (.bool false), (.bool false)]), some (11, [(.agg [(.int .i64 (.ofNat 1)), (.int .i64 (.ofNat 1)), (.int .i64 (.ofNat 1)), (.int .i64 (.ofNat 0)), (.int .i64 (.ofNat 1)), (.int .i64 (.ofNat 0)), (.str ⟨#[]⟩), (.bool false), (.bool false), (.int .i64 (.ofNat 0)), .nil]), (.agg [(.int .i64 (.ofNat 2)), (.int .i64 (.ofNat 2)), (.int .i64 (.ofNat 2)), (.int .i64 (.ofNat 0)), (.int .i64 (.ofNat 1)), (.int .i64 (.ofNat 0)), (.str ⟨#[]⟩), (.bool false), (.bool false), (.int .i64 (.ofNat 0)), .nil]), (.agg [(.int .i64 (.ofNat 3)), (.int .i64 (.ofNat 2)), (.int .i64 (.ofNat 3)), (.int .i64 (.ofNat 0)), (.int .i64 (.ofNat 1)), (.int .i64 (.ofNat 1)), (.str ⟨#[]⟩), (.bool false), (.bool false), (.int .i64 (.ofNat 0)), .nil])]), some (1, [(.int .i64 (.ofNat 1)), (.int .i64 (.ofNat 0))]), some (1, [(.int .i64 (.ofNat 0)), (.int .i64 (.ofNat 0))]), some (1, [(.int .i64 (.ofNat 0)), (.int .i64 (.ofNat 0))]), some (1, [(.int .i64 (.ofNat 0)), (.int .i64 (.ofNat 0))]), some (1, [(.int .i64 (.ofNat 0)), (.int .i64 (.ofNat 0))]), some (1, [(.int .i64 (.ofNat 0)), (.int .i64 (.ofNat 0))]), some (1, [(.int .i64 (.ofNat 0)), (.int .i64 (.ofNat 0))]), some (1, [(.int .i64 (.ofNat 0)), (.int .i64 (.ofNat 0))]), some (2, [(.agg [(.str ⟨#[97]⟩), (.int .i64 (.ofNat 2))]), (.agg [(.str ⟨#[98]⟩), (.int .i64 (.ofNat 3))]), (.agg [(.str ⟨#[]⟩), (.int .i64 (.ofNat 0))]), (.agg [(.str ⟨#[]⟩), (.int .i64 (.ofNat 0))])]), some (1, [(.bool true), (.bool false), (.bool false), (.bool false), (.bool false), (.bool false), (.bool false), (.bool false), (.bool false), (.bool false), (.bool false), (.bool false), (.bool false), (.bool false), (.bool false), (.bool false)]), some (1, [(.bool true), (.bool true), (.bool true), (.bool false), (.bool false), (.bool false), (.bool false), (.bool false)]), some (3, [(.agg [(.int .i64 (.ofNat 2)), (.int .i64 (.ofNat 1)), (.own 1 [(.int .i64 (.ofNat 1)), (.int .i64 (.ofNat 0))])]), (.agg [(.int .i64 (.ofNat 1)), (.int .i64 (.ofNat 1)), (.own 1 [(.int .i64 (.ofNat 0)), (.int .i64 (.ofNat 0))])]), (.agg [(.int .i64 (.ofNat 1)), (.int .i64 (.ofNat 1)), (.own 1 [(.int .i64 (.ofNat 0)), (.int .i64 (.ofNat 0))])]), (.agg [(.int .i64 (.ofNat 0)), (.int .i64 (.ofNat 0)), (.own 1 [(.int .i64 (.ofNat 0)), (.int .i64 (.ofNat 0))])]), (.agg [(.int .i64 (.ofNat 0)), (.int .i64 (.ofNat 0)), (.own 1 [(.int .i64 (.ofNat 0)), (.int .i64 (.ofNat 0))])]), (.agg [(.int .i64 (.ofNat 0)), (.int .i64 (.ofNat 0)), (.own 1 [(.int .i64 (.ofNat 0)), (.int .i64 (.ofNat 0))])]), (.agg [(.int .i64 (.ofNat 0)), (.int .i64 (.ofNat 0)), (.own 1 [(.int .i64 (.ofNat 0)), (.int .i64 (.ofNat 0))])]), (.agg [(.int .i64 (.ofNat 0)), (.int .i64 (.ofNat 0)), (.own 1 [(.int .i64 (.ofNat 0)), (.int .i64 (.ofNat 0))])])]), some (3, [(.agg [(.bool true), (.own 2 [(.agg [(.str ⟨#[97]⟩), (.int .i64 (.ofNat 2))]), (.agg [(.str ⟨#[98]⟩), (.int .i64 (.ofNat 3))]), (.agg [(.str ⟨#[]⟩), (.int .i64 (.ofNat 0))]), (.agg [(.str ⟨#[]⟩), (.int .i64 (.ofNat 0))])]), (.str ⟨#[]⟩)]), (.agg [(.bool false), .nil, (.str ⟨#[]⟩)]), (.agg [(.bool false), .nil, (.str ⟨#[]⟩)]), (.agg [(.bool false), .nil, (.str ⟨#[]⟩)]), (.agg [(.bool false), .nil, (.str ⟨#[]⟩)]), (.agg [(.bool false), .nil, (.str ⟨#[]⟩)]), (.agg [(.bool false), .nil, (.str ⟨#[]⟩)]), (.agg [(.bool false), .nil, (.str ⟨#[]⟩)]), (.agg [(.bool false), .nil, (.str ⟨#[]⟩)]), (.agg [(.bool false), .nil, (.str ⟨#[]⟩)]), (.agg [(.bool false), .nil, (.str ⟨#[]⟩)]), (.agg [(.bool false), .nil, (.str ⟨#[]⟩)]), (.agg [(.bool false), .nil, (.str ⟨#[]⟩)]), (.agg [(.bool false), .nil, (.str ⟨#[]⟩)]), (.agg [(.bool false), .nil, (.str ⟨#[]⟩)]), (.agg [(.bool false), .nil, (.str ⟨#[]⟩)])]), some (1, [(.bool false), (.bool false), (.bool false), (.bool false), (.bool false), (.bool false), (.bool false), (.bool false), (.bool false), (.bool false), (.bool false), (.bool false), (.bool false), (.bool false), (.bool false), (.bool false), (.bool false), (.bool false), (.bool false), (.bool false), (.bool false)]), some (1, [(.str ⟨#[1, 0, 7]⟩), (.str ⟨#[2, 1, 1, 0, 1, 1, 0, 0]⟩), (.str ⟨#[1, 1, 0, 0, 0, 0, 0, 0]⟩), (.str ⟨#[0, 0, 0, 0, 0, 0, 0, 0]⟩), (.str ⟨#[0, 0, 0, 0, 0, 0, 0, 0]⟩), (.str ⟨#[100, 2, 1, 97, 3, 1, 98, 0, 0, 0, 0]⟩), (.str ⟨#[116]⟩), (.str ⟨#[116]⟩), (.str ⟨#[116]⟩), (.str ⟨#[116]⟩), (.str ⟨#[116]⟩), (.str ⟨#[116]⟩), (.str ⟨#[116]⟩), (.str ⟨#[116]⟩), (.str ⟨#[116]⟩), (.str ⟨#[116]⟩), (.str ⟨#[116]⟩), (.str ⟨#[116]⟩), (.str ⟨#[116]⟩), (.str ⟨#[116]⟩), (.str ⟨#[116]⟩)])]⟩
def tblL : List (Nat × CF) := (7, .orc (memoG [(A0, R0)])) :: (8, .orc (memoG [(A1, R1), (A2, R2)])) :: (10, .orc (memoG [(A9, R9)])) :: tblB
theorem tblL_ok : TblOk TB tblL := ⟨memo_ok (fun p hp => by simp only [List.mem_cons, List.not_mem_nil, or_false] at hp; subst hp; exact m0), ⟨memo_ok (fun p hp => by simp only [List.mem_cons, List.not_mem_nil, or_false] at hp; rcases hp with rfl | rfl <;> first | exact m1 | exact m2), ⟨memo_ok (fun p hp => by simp only [List.mem_cons, List.not_mem_nil, or_false] at hp; subst hp; exact m9), tblB_ok⟩⟩⟩
def mid4 : EC := .seq (sqL b3) (.seq (sqL b4) (.seq (sqL b5) (sqL b6)))
theorem mid4_run (L : List AV) : cvC (crun tblL 5000 60) 5000 mid4 (S2 L) = some (.normal, S6 L) := by kernel_rfl
theorem mid4_is (L : List AV) {y : AX} {s : CS} (h : RunC TB 0 b7 (S6 L) y s) : RunC TB 0 b3 (S2 L) y s := by
  have cL : Go.Abs.Comes TB (crun tblL 5000 60) := crun_comes tblL_ok _ _
  have h3 := mid4_run L
  unfold mid4 at h3
  obtain ⟨s3, e4, h4⟩ := cv_seq h3
  obtain ⟨s4, e5, h5⟩ := cv_seq h4
  obtain ⟨s5, e6, h6⟩ := cv_seq h5
  rw [b3_eq, b4_eq, b5_eq, b6_eq]
  exact .seq (.of cL e4) (.seq (.of cL e5) (.seq (.of cL e6) (.seq (.of cL h6) h)))
end Go.Proofs.YtaaajjinpppgeaaGreatDoor
namespace Go.Proofs.YtaaajjinpppgeaaGreatDoor
open Go Go.Abs
set_option maxRecDepth 100000
theorem and255 (a : Int) : 0 ≤ IntKind.i64.wrap ((BitVec.ofInt IntKind.i64.bits a &&& BitVec.ofInt IntKind.i64.bits 255).toNat : Int) ∧ IntKind.i64.wrap ((BitVec.ofInt IntKind.i64.bits a &&& BitVec.ofInt IntKind.i64.bits 255).toNat : Int) ≤ 255 := by
  have h : (BitVec.ofInt IntKind.i64.bits a &&& BitVec.ofInt IntKind.i64.bits 255).toNat ≤ 255 := by
    rw [BitVec.toNat_and]
    exact Nat.le_trans Nat.and_le_right (by decide)
  rw [w_i64 _ (by omega)]
  omega
theorem shr33 (a : Int) : binV .shr (.int .i64 a) (.int .u64 33) = some (.int .i64 (a.fdiv (2 ^ (Nat.min (33 : Int).toNat IntKind.i64.bits)))) := rfl
theorem shr45 (a : Int) : binV .shr (.int .i64 a) (.int .u64 45) = some (.int .i64 (a.fdiv (2 ^ (Nat.min (45 : Int).toNat IntKind.i64.bits)))) := rfl
theorem xorI (a b : Int) : binV .xor (.int .i64 a) (.int .i64 b) = some (.int .i64 (IntKind.i64.wrap (BitVec.ofInt IntKind.i64.bits a ^^^ BitVec.ofInt IntKind.i64.bits b).toNat)) := rfl
theorem andI (a b : Int) : binV .and (.int .i64 a) (.int .i64 b) = some (.int .i64 (IntKind.i64.wrap (BitVec.ofInt IntKind.i64.bits a &&& BitVec.ofInt IntKind.i64.bits b).toNat)) := rfl
def by8 (l : List Int) : AV := .ro 1 (l.map (AV.int .u8))
def gm (l : List Int) (i : Nat) (s : Int) : Mem := [some (3, [.agg [by8 l, .int .i64 (i : Nat), .int .i64 s]])]
theorem e54 (l : List Int) (hl : l.length ≤ 1048576) (i : Nat) (s : Int) (hi : i ≤ 1048576) : ∃ (b : Int) (i' : Nat) (s' : Int), E TB 54 [.ptr 0 0 0] (gm l i s) = some (.int .i64 b, gm l i' s') ∧ 0 ≤ b ∧ b ≤ 255 ∧ i' ≤ 1048576 := by
  rw [E_eq (tB t54 rfl) (Nat.le_of_ble_eq_true rfl)]
  by_cases hh : i < l.length
  · obtain ⟨p, hp⟩ := Go.Abs.get_at hh
    have hh' : (i : Int) < (l.length : Int) := by omega
    simp only [F54, gm, by8, shr33, shr45, xorI, andI, go_sem, seval, bnd_ite, hh', gD_map hp, Int.natCast_nonneg, w_i64 ((i : Int) + 1) (by omega), List.length_map, decide_true]
    exact ⟨_, i + 1, _, rfl, (and255 _).1, (and255 _).2, by omega⟩
  · have hh' : ¬ (i : Int) < (l.length : Int) := by omega
    simp only [F54, gm, by8, shr33, shr45, xorI, andI, go_sem, seval, bnd_ite, hh', Int.natCast_nonneg, List.length_map, decide_false]
    exact ⟨_, i, _, rfl, (and255 _).1, (and255 _).2, hi⟩
theorem e53 (l : List Int) (hl : l.length ≤ 1048576) (i : Nat) (s : Int) (hi : i ≤ 1048576) : ∃ (v : Int) (i' : Nat) (s' : Int), E TB 53 [.ptr 0 0 0, .int .i64 10000] (gm l i s) = some (.int .i64 v, gm l i' s') ∧ 0 ≤ v ∧ v ≤ 9999 ∧ i' ≤ 1048576 := by
  obtain ⟨b1, i1, s1, h1, p1, q1, r1⟩ := e54 l hl i s hi
  obtain ⟨b2, i2, s2, h2, p2, q2, r2⟩ := e54 l hl i1 s1 r1
  obtain ⟨b3, i3, s3, h3, p3, q3, r3⟩ := e54 l hl i2 s2 r2
  obtain ⟨b4, i4, s4, h4, p4, q4, r4⟩ := e54 l hl i3 s3 r3
  rw [E_eq (tB t53 rfl) (Nat.le_of_ble_eq_true rfl)]
  simp only [gm, by8] at h1 h2 h3 h4
  have w1 := w_i64 (b1 * 16777216) (by omega)
  have w2 := w_i64 (b2 * 65536) (by omega)
  have w3 := w_i64 (b1 * 16777216 + b2 * 65536) (by omega)
  have w4 := w_i64 (b3 * 256) (by omega)
  have w5 := w_i64 (b1 * 16777216 + b2 * 65536 + b3 * 256) (by omega)
  have w6 := w_i64 (b1 * 16777216 + b2 * 65536 + b3 * 256 + b4) (by omega)
  simp only [F53, gm, by8, go_sem, seval, bnd_ite, h1, h2, h3, h4, w1, w2, w3, w4, w5, w6]
  refine ⟨_, i4, s4, rfl, ?_, ?_, r4⟩
  · exact Int.tmod_nonneg _ (by omega)
  · have := Int.tmod_lt_of_pos (b1 * 16777216 + b2 * 65536 + b3 * 256 + b4) (show (0 : Int) < 10000 by omega)
    omega
theorem e52 (l : List Int) (hl : l.length ≤ 1048576) : ∃ s : Int, E TB 52 [by8 l] [] = some (.box (.agg [by8 l, .int .i64 0, .int .i64 s]), []) := by
  rw [E_eq (tB t52 rfl) (Nat.le_of_ble_eq_true rfl)]
  have w0 := w_i64 (37701 + (l.length : Int)) (by omega)
  simp only [F52, by8, h52_3, go_sem, seval, bnd_ite, List.length_map, w0]
  obtain ⟨⟨z, e, m⟩, k1, kx, k2, km, k0, hh, k3⟩ := XL_inv (T := TB) (b := 0) (hd := H52_3) (x := L52_3) (β := Int) (fun i h => ⟨[(0, .ro 1 (l.map (AV.int .u8))), (3, .int .i64 h), (4, .int .i64 (i : Nat))], []⟩) (fun _ _ => True) (min l.length 4000)
    (fun r => r.1 = .exit 0 ∧ r.2.mem = [] ∧ lookA r.2.env 0 = .ro 1 (l.map (AV.int .u8)) ∧ ∃ h, lookA r.2.env 3 = .int .i64 h) (by
      intro i a hi _
      left
      have hi' : i < l.length := by omega
      obtain ⟨p, hp⟩ := Go.Abs.get_at hi'
      have c1 : (i : Int) < (l.length : Int) := by omega
      have c2 : (i : Int) < 4000 := by omega
      have hc : ((i + 1 : Nat) : Int) = (i : Int) + 1 := by omega
      simp only [hc, XG, L52_3, h52_3, go_sem, seval, bnd_ite, List.length_map, c1, c2, gD_map hp, andI, Int.natCast_nonneg, w_i64 ((i : Int) + 1) (by omega), decide_true]
      first | exact ⟨_, rfl, trivial⟩ | exact ⟨_, rfl⟩) (by
      intro a _
      by_cases hc : l.length ≤ 4000
      · have e1 : min l.length 4000 = l.length := by omega
        rw [e1]
        have c1 : ¬ (l.length : Int) < (l.length : Int) := by omega
        simp only [XG, L52_3, h52_3, go_sem, seval, bnd_ite, List.length_map, c1, decide_false]
        exact .mk (by simp) ⟨rfl, rfl, rfl, a, rfl⟩
      · have e1 : min l.length 4000 = 4000 := by omega
        rw [e1]
        have c1 : ((4000 : Nat) : Int) < (l.length : Int) := by omega
        have c2 : ¬ ((4000 : Nat) : Int) < 4000 := by omega
        simp only [XG, L52_3, h52_3, go_sem, seval, bnd_ite, List.length_map, c1, c2, decide_true, decide_false]
        exact .mk (by simp) ⟨rfl, rfl, rfl, a, rfl⟩) 0 (37701 + (l.length : Int)) (by omega) trivial
  have hs0 : ((0 : Nat) : Int) = 0 := rfl
  rw [hs0] at k1
  rw [k1]
  simp only at kx k2 km k0 k3
  subst k2 km
  simp only [go_sem, seval, bnd_ite, k0, k3]
  exact ⟨hh, rfl⟩
def iw (z : Int) : AV := .int .i64 z
theorem iw_cool (x : Int) : coolX (iw x) = true := rfl
theorem iwf (A : List Int) (d : Int) : ∃ M, A.map iw = M ∧ M.length = A.length ∧ (∀ g, mapIdL g M = M) ∧ (∀ u, idsL u M = []) ∧ M.take A.length = M ∧ M ++ [AV.int .i64 d] = (A ++ [d]).map iw ∧ coolR 1 M = true ∧ iceL M = M :=
  ⟨_, rfl, by simp, fun g => mi_map g iw A iw_cool, fun u => is_map u iw A iw_cool, List.take_of_length_le (by simp), by rw [List.map_append]; rfl, coR_map 1 iw A (fun _ => rfl) iw_cool, by rw [ice_m]; exact List.map_congr_left fun x _ => rfl⟩
theorem e12 (l : List Int) (hl : l.length ≤ 1048576) : ∃ xs : List Int, xs.length = 12 ∧ (∀ x ∈ xs, 0 ≤ x ∧ x ≤ 9999) ∧ E TB 12 [by8 l] [] = some (.own 1 (xs.map (AV.int .i64)), []) := by
  obtain ⟨s, hs⟩ := e52 l hl
  obtain ⟨b0, i0, s0, h0, -, -, r0⟩ := e54 l hl 0 s (by omega)
  rw [E_eq (tB t12 rfl) (Nat.le_of_ble_eq_true rfl)]
  simp only [gm, by8] at hs h0
  have hz : ((0 : Nat) : Int) = 0 := rfl
  rw [hz] at h0
  simp only [F12, by8, h12_5, go_sem, seval, bnd_ite, hs, h0]
  obtain ⟨⟨z, e, m⟩, k1, kx, k2, xs, ka, kb, kc, i9, s9, km⟩ := XL_inv (T := TB) (b := 0) (hd := H12_5) (x := L12_5) (β := Nat × Int × List Int)
    (fun k a => ⟨[(3, .ptr 0 0 0), (4, .sl 1 0 k), (5, .int .i64 (k : Nat))], [some (3, [.agg [.ro 1 (l.map (AV.int .u8)), .int .i64 (a.1 : Nat), .int .i64 a.2.1]]), some (1, a.2.2.map iw)]⟩)
    (fun k a => a.1 ≤ 1048576 ∧ a.2.2.length = k ∧ ∀ x ∈ a.2.2, 0 ≤ x ∧ x ≤ 9999) 12
    (fun r => r.1 = .exit 0 ∧ ∃ xs : List Int, xs.length = 12 ∧ (∀ x ∈ xs, 0 ≤ x ∧ x ≤ 9999) ∧ lookA r.2.env 4 = .sl 1 0 12 ∧ ∃ (i : Nat) (s : Int), r.2.mem = [some (3, [.agg [.ro 1 (l.map (AV.int .u8)), .int .i64 (i : Nat), .int .i64 s]]), some (1, xs.map iw)]) (by
      rintro k ⟨i, s, vs⟩ hk ⟨hi, hv, hb⟩
      simp only at hi hv hb
      left
      obtain ⟨v, i', s', h1, p1, q1, r1⟩ := e53 l hl i s hi
      simp only [gm, by8] at h1
      have c1 : (k : Int) < 12 := by omega
      have hc : ((k + 1 : Nat) : Int) = (k : Int) + 1 := by omega
      obtain ⟨M, hM, ml, mi, ms, mt, ma, mc, mx⟩ := iwf vs v
      rw [hv] at ml mt
      have hap : (k + 1) * 8 ≤ 140737488355328 := by omega
      refine ⟨(i', s', vs ++ [v]), ?_, r1, by simp [hv], fun x hx => ?_⟩
      · simp only [hM, ← ma, hc]
        simp only [XG, L12_5, h12_5, go_sem, seval, bnd_ite, c1, h1, w_i64 ((k : Int) + 1) (by omega), ml, mi, ms, mt, mc, mx, hap, decide_true]
        first | done | rfl
      · rw [List.mem_append, List.mem_singleton] at hx
        rcases hx with hx | rfl
        · exact hb x hx
        · exact ⟨p1, q1⟩) (by
      rintro ⟨i, s, vs⟩ ⟨hi, hv, hb⟩
      have c1 : ¬ ((12 : Nat) : Int) < 12 := by omega
      simp only [XG, L12_5, h12_5, go_sem, seval, bnd_ite, c1, decide_false]
      exact .mk (by simp) ⟨rfl, vs, hv, hb, rfl, i, s, rfl⟩) 0 (i0, s0, []) (by omega) ⟨r0, rfl, fun x hx => by cases hx⟩
  rw [hz] at k1
  rw [show (i0, s0, ([] : List Int)).2.2.map iw = [] from rfl] at k1
  simp only at k1
  rw [k1]
  simp only at kx k2 km kc
  subst k2 km
  obtain ⟨M, hM, ml, mi, ms, mt, ma, mc, mx⟩ := iwf xs 0
  rw [ka] at ml mt
  refine ⟨xs, ka, kb, ?_⟩
  show _ = some (AV.own 1 (xs.map iw), [])
  simp only [hM]
  simp only [go_sem, seval, bnd_ite, kc, ml, mi, ms, mt, mc, mx]
  first | done | rfl
end Go.Proofs.YtaaajjinpppgeaaGreatDoor
namespace Go.Proofs.YtaaajjinpppgeaaGreatDoor
open Go Go.Abs
set_option maxRecDepth 100000
theorem e6 (L : List AV) : E TB 6 [.ro 1 L] [] = some (.bool (decide ((L.length : Int) > 1048576)), []) := by
  rw [E_eq (tB c6 rfl) (Nat.le_of_ble_eq_true rfl)]
  simp only [C6, go_sem, seval]
  first | done | rfl
def U0 (L : List AV) : CS := ⟨(.nd .lf (.ro 1 L) (.nd .lf (.bool false) .lf)), []⟩
def U0a (L : List AV) : CS := ⟨Tr.set 12 (U0 L).tr 18 (.ro 1 L), []⟩
def U1 (L : List AV) (b : Bool) : CS := ⟨Tr.set 12 (U0a L).tr 19 (.bool b), []⟩
theorem p0_run (L : List AV) : cvC (crun tblB 5000 60) 5000 (sqL C4.body) ⟨trA 0 [.ro 1 L] .lf, []⟩ = some (.normal, U0 L) := by kernel_rfl
theorem p1_eq : sqL (sqL (sqR C4.body)) = .view [.all 3] (.region [.op .mv [.tmp 0] (some 18) true, .pc (.const (.fn 6 [])) [.tmp 18] (some 19) true] false) := by kernel_rfl
theorem p1_mv (L : List AV) : cvI (crun tblB 5000 60) false (.op .mv [.tmp 0] (some 18) true) (U0 L) = some (U0a L) := by kernel_rfl
theorem p1_ar (L : List AV) : [Opd.tmp 18].map (getC (U0a L).tr) = [.ro 1 L] := by kernel_rfl
theorem p1_is (L : List AV) (b : Bool) (hb : decide ((L.length : Int) > 1048576) = b) : RunC TB 0 (sqL (sqL (sqR C4.body))) (U0 L) .normal (U1 L b) := by
  rw [p1_eq]
  refine .view (s1 := U0 L) rfl (.region (.cons (s1 := U0a L) (.of cB (p1_mv L)) (.cons (s1 := U1 L b) ?_ .nil)))
  exact RunI.pc (v := (.bool b, none)) (p1_ar L) rfl rfl (by rw [e6, hb]) rfl rfl
theorem p2_big (L : List AV) : bnd (cvC (crun tblB 5000 60) 5000 (sqR (sqL (sqR C4.body))) (U1 L true)) (retC C4.results 0) = some (.bool true, []) := by kernel_rfl
theorem p2_small (L : List AV) : cvC (crun tblB 5000 60) 5000 (sqR (sqL (sqR C4.body))) (U1 L false) = some (.normal, S2 L) := by kernel_rfl
def p7 : EC := sqL b7
def reg7 : List EI := match p7 with | .view _ (.region l _) => l | .region l _ => l | _ => []
def V1 (L : List AV) : CS := ⟨(S6 L).tr, allM 3 (S6 L).mem⟩
def V2 (L : List AV) : CS := ⟨Tr.set 12 (Tr.set 12 (V1 L).tr 37 (.sl (V1 L).mem.length 0 2)) 38 (.ro 1 L), (V1 L).mem ++ [some (1, [.str ⟨#[97]⟩, .str ⟨#[98]⟩])]⟩
def V3 (L X : List AV) : CS := ⟨Tr.set 12 (V2 L).tr 39 (.sl (V2 L).mem.length 0 12), (V2 L).mem ++ [some (1, X)]⟩
def V4 (L X : List AV) (a r : Int) : CS := ⟨Tr.set 12 (Tr.set 12 (Tr.set 12 (V3 L X).tr 40 (.ptr (V2 L).mem.length 0 0)) 41 (.int .i64 a)) 42 (.int .i64 r), (V3 L X).mem⟩
def V5 (L X : List AV) (a r : Int) (k : Nat) (s : ByteArray) : CS := ⟨Tr.set 12 (Tr.set 12 (Tr.set 12 (V4 L X a r).tr 43 (.ptr (V1 L).mem.length k 0)) 44 (.str s)) 6 (.str s), (V4 L X a r).mem⟩
def X12 (a0 a1 a2 a3 a4 a5 a6 a7 a8 a9 a10 a11 : Int) : List AV := [.int .i64 a0, .int .i64 a1, .int .i64 a2, .int .i64 a3, .int .i64 a4, .int .i64 a5, .int .i64 a6, .int .i64 a7, .int .i64 a8, .int .i64 a9, .int .i64 a10, .int .i64 a11]
theorem p7_eq : p7 = .view [.all 3] (.region (reg7.take 2 ++ (.pc (.const (.fn 12 [])) [.tmp 38] (some 39) true :: ((reg7.drop 3).take 3 ++ reg7.drop 6))) false) := by kernel_rfl
theorem p7_two (L : List AV) : cvR (crun tblB 5000 60) false (reg7.take 2) (V1 L) = some (V2 L) := by kernel_rfl
theorem p7_ar (L : List AV) : [Opd.tmp 38].map (getC (V2 L).tr) = [.ro 1 L] := by kernel_rfl
theorem p7_mid (L : List AV) (a0 a1 a2 a3 a4 a5 a6 a7 a8 a9 a10 a11 : Int) : cvR (crun tblB 5000 60) false ((reg7.drop 3).take 3) (V3 L (X12 a0 a1 a2 a3 a4 a5 a6 a7 a8 a9 a10 a11)) = some (V4 L (X12 a0 a1 a2 a3 a4 a5 a6 a7 a8 a9 a10 a11) a0 (a0.tmod 2)) := by kernel_rfl
theorem p7_r0 (L : List AV) (a0 a1 a2 a3 a4 a5 a6 a7 a8 a9 a10 a11 : Int) : cvR (crun tblB 5000 60) false (reg7.drop 6) (V4 L (X12 a0 a1 a2 a3 a4 a5 a6 a7 a8 a9 a10 a11) a0 (.ofNat 0)) = some (V5 L (X12 a0 a1 a2 a3 a4 a5 a6 a7 a8 a9 a10 a11) a0 (.ofNat 0) 0 ⟨#[97]⟩) := by kernel_rfl
theorem p7_r1 (L : List AV) (a0 a1 a2 a3 a4 a5 a6 a7 a8 a9 a10 a11 : Int) : cvR (crun tblB 5000 60) false (reg7.drop 6) (V4 L (X12 a0 a1 a2 a3 a4 a5 a6 a7 a8 a9 a10 a11) a0 (.ofNat 1)) = some (V5 L (X12 a0 a1 a2 a3 a4 a5 a6 a7 a8 a9 a10 a11) a0 (.ofNat 1) 1 ⟨#[98]⟩) := by kernel_rfl
theorem p7_is (L : List AV) (a0 a1 a2 a3 a4 a5 a6 a7 a8 a9 a10 a11 : Int) (h : E TB 12 [.ro 1 L] [] = some (.own 1 (X12 a0 a1 a2 a3 a4 a5 a6 a7 a8 a9 a10 a11), [])) {r : Int} {s' : CS} (hr : a0.tmod 2 = r) (hs : cvR (crun tblB 5000 60) false (reg7.drop 6) (V4 L (X12 a0 a1 a2 a3 a4 a5 a6 a7 a8 a9 a10 a11) a0 r) = some s') :
    RunC TB 0 p7 (S6 L) .normal s' := by
  rw [p7_eq]
  refine .view (s1 := V1 L) rfl (.region (RunR.append (.of cB (p7_two L)) (.cons (s1 := V3 L (X12 a0 a1 a2 a3 a4 a5 a6 a7 a8 a9 a10 a11)) ?_ (RunR.append (.of cB (p7_mid L a0 a1 a2 a3 a4 a5 a6 a7 a8 a9 a10 a11)) (.of cB (by rw [hr]; exact hs))))))
  exact RunI.pc (v := (.sl (V2 L).mem.length 0 12, some ((V2 L).mem ++ [some (1, (X12 a0 a1 a2 a3 a4 a5 a6 a7 a8 a9 a10 a11))]))) (p7_ar L) rfl rfl h rfl rfl
end Go.Proofs.YtaaajjinpppgeaaGreatDoor
namespace Go.Proofs.YtaaajjinpppgeaaGreatDoor
open Go Go.Abs
set_option maxRecDepth 100000
def A10 : List AV := [D18]
def R10 : AV := (.bool true)
theorem m10 : E TB 24 A10 [] = some (R10, []) := crun_ok tblB_ok (fuel := 5000) (n := 60) (by kernel_rfl)
end Go.Proofs.YtaaajjinpppgeaaGreatDoor
namespace Go.Proofs.YtaaajjinpppgeaaGreatDoor
open Go Go.Abs
set_option maxRecDepth 100000
def A11 : List AV := [D18, (.str ⟨#[47, 97]⟩)]
def R11 : AV := D19
def tbl11 : List (Nat × CF) := (24, .orc (memoG [(A10, R10)])) :: tblB
theorem tbl11_ok : TblOk TB tbl11 := ⟨memo_ok (fun p hp => by simp only [List.mem_cons, List.not_mem_nil, or_false] at hp; subst hp; exact m10), tblB_ok⟩
theorem m11 : E TB 21 A11 [] = some (R11, []) := crun_ok tbl11_ok (fuel := 5000) (n := 60) (by kernel_rfl)
end Go.Proofs.YtaaajjinpppgeaaGreatDoor
namespace Go.Proofs.YtaaajjinpppgeaaGreatDoor
open Go Go.Abs
set_option maxRecDepth 100000
def A12 : List AV := [D20]
def R12 : AV := (.bool true)
theorem m12 : E TB 24 A12 [] = some (R12, []) := crun_ok tblB_ok (fuel := 5000) (n := 60) (by kernel_rfl)
end Go.Proofs.YtaaajjinpppgeaaGreatDoor
namespace Go.Proofs.YtaaajjinpppgeaaGreatDoor
open Go Go.Abs
set_option maxRecDepth 100000
def A13 : List AV := [D20, (.str ⟨#[47, 99]⟩), (.int .i64 (.ofNat 1))]
def R13 : AV := D21
def tbl13 : List (Nat × CF) := (24, .orc (memoG [(A10, R10), (A12, R12)])) :: tblB
theorem tbl13_ok : TblOk TB tbl13 := ⟨memo_ok (fun p hp => by simp only [List.mem_cons, List.not_mem_nil, or_false] at hp; rcases hp with rfl | rfl <;> first | exact m10 | exact m12), tblB_ok⟩
theorem m13 : E TB 22 A13 [] = some (R13, []) := crun_ok tbl13_ok (fuel := 5000) (n := 60) (by kernel_rfl)
end Go.Proofs.YtaaajjinpppgeaaGreatDoor
