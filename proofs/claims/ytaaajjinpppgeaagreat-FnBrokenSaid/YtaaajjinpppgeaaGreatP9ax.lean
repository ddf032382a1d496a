/- Part 24 of the texts of a claim, joined by a program of ours (Bl, Dp, Bk, Mm14, Mm16, Mm17, Mm18, Mm19, Mm20, Mm21, Mm22, Mm23, Mm24). No condition. -/
import Derived.Test.YtaaajjinpppgeaaGreatP9aw
set_option linter.unusedVariables false
set_option linter.unusedSimpArgs false
set_option linter.unusedSectionVars false
namespace Go.Proofs.YtaaajjinpppgeaaGreat
open Go Go.Abs
set_option maxRecDepth 100000
def b3 : EC := sqR (sqR C9.body)
def b4 : EC := sqR b3
def b5 : EC := sqR b4
def b6 : EC := sqR b5
def b7 : EC := sqR b6
def b8 : EC := sqR b7
def b9 : EC := sqR b8
def b10 : EC := sqR b9
def b11 : EC := sqR b10
def b12 : EC := sqR b11
theorem body9 : C9.body = .seq (sqL C9.body) (.seq (.seq (sqL (sqL (sqR C9.body))) (sqR (sqL (sqR C9.body)))) b3) := by kernel_rfl
theorem b3_eq : b3 = .seq (sqL b3) b4 := by kernel_rfl
theorem b4_eq : b4 = .seq (sqL b4) b5 := by kernel_rfl
theorem b5_eq : b5 = .seq (sqL b5) b6 := by kernel_rfl
theorem b6_eq : b6 = .seq (sqL b6) b7 := by kernel_rfl
theorem b7_eq : b7 = .seq (sqL b7) b8 := by kernel_rfl
theorem b8_eq : b8 = .seq (sqL b8) b9 := by kernel_rfl
theorem b9_eq : b9 = .seq (sqL b9) b10 := by kernel_rfl
theorem b10_eq : b10 = .seq (sqL b10) b11 := by kernel_rfl
theorem b11_eq : b11 = .seq (sqL b11) b12 := by kernel_rfl
def p12 : EC := sqL (sqL b12)
def p13 : EC := sqR (sqL b12)
theorem b12_eq : b12 = .seq (.seq p12 p13) (sqR b12) := by kernel_rfl
def S2 (L : List AV) : CS := ⟨(.nd (.nd (.nd .lf .undef (.nd .lf (.ro 1 L) .lf)) .undef .lf) (.ro 1 L) (.nd (.nd .lf .undef (.nd .lf (.bool false) .lf)) (.bool false) .lf)), []⟩
def S11 (L : List AV) : CS := ⟨(.nd (.nd (.nd (.nd (.nd (.nd .lf (.ptr 6 0 7) .lf) (.ptr 6 0 0) .lf) (.ptr 81 0 0) (.nd (.nd .lf (.int .i64 (.ofNat 2)) .lf) (.agg [(.sl 31 0 16), (.sl 32 0 8), (.sl 33 0 8), (.sl 34 0 16), (.sl 35 0 21), (.sl 36 0 3), (.int .i64 (.ofNat 4))]) .lf)) (.ptr 6 0 0) (.nd (.nd (.nd .lf (.ptr 67 0 7) .lf) (.int .i64 (.ofNat 0)) .lf) (.ro 1 L) (.nd (.nd .lf (.bool true) .lf) (.tup [(.agg [(.sl 46 0 16), (.sl 47 0 8), (.sl 48 0 8), (.sl 49 0 16), (.sl 50 0 21), (.sl 51 0 4), (.int .i64 (.ofNat 5))]), (.int .i64 (.ofNat 0))]) .lf))) .undef (.nd (.nd (.nd (.nd .lf (.agg [(.sl 46 0 16), (.sl 47 0 8), (.sl 48 0 8), (.sl 49 0 16), (.sl 50 0 21), (.sl 51 0 4), (.int .i64 (.ofNat 5)), (.sl 5 0 21)]) .lf) (.tup [(.agg [(.sl 15 0 16), (.sl 16 0 8), (.sl 17 0 8), (.sl 18 0 16), (.sl 19 0 21), (.sl 20 0 2), (.int .i64 (.ofNat 3))]), (.int .i64 (.ofNat 0))]) .lf) (.int .i64 (.ofNat 3)) (.nd (.nd .lf (.int .i64 (.ofNat 3)) .lf) (.tup [(.agg [(.sl 46 0 16), (.sl 47 0 8), (.sl 48 0 8), (.sl 49 0 16), (.sl 50 0 21), (.sl 51 0 4), (.int .i64 (.ofNat 5))]), (.int .i64 (.ofNat 0))]) .lf)) (.int .i64 (.ofNat 0)) (.nd (.nd (.nd .lf (.agg [(.sl 77 0 16), (.sl 78 0 8), (.sl 79 0 8), (.sl 80 0 16)]) .lf) (.agg [(.sl 15 0 16), (.sl 16 0 8), (.sl 17 0 8), (.sl 18 0 16), (.sl 19 0 21), (.sl 20 0 2), (.int .i64 (.ofNat 3))]) .lf) (.agg [(.sl 0 0 16), (.sl 1 0 8), (.sl 2 0 8), (.sl 3 0 16), (.sl 4 0 21), .nil, (.int .i64 (.ofNat 1)), (.sl 5 0 21)]) (.nd .lf (.int .i64 (.ofNat 0)) .lf)))) (.ro 1 L) (.nd (.nd (.nd (.nd (.nd .lf (.agg [(.sl 5 0 21)]) .lf) (.agg [(.sl 0 0 16), (.sl 1 0 8), (.sl 2 0 8), (.sl 3 0 16), (.sl 4 0 21), .nil, (.int .i64 (.ofNat 1))]) .lf) (.int .i64 (.ofNat 2)) (.nd (.nd .lf (.agg [(.sl 77 0 16), (.sl 78 0 8), (.sl 79 0 8), (.sl 80 0 16)]) .lf) (.int .i64 (.ofNat 0)) .lf)) (.ptr 21 0 0) (.nd (.nd (.nd .lf (.agg [(.sl 66 0 21)]) .lf) (.tup [(.agg [(.sl 31 0 16), (.sl 32 0 8), (.sl 33 0 8), (.sl 34 0 16), (.sl 35 0 21), (.sl 36 0 3), (.int .i64 (.ofNat 4))]), (.int .i64 (.ofNat 0))]) .lf) (.bool false) (.nd .lf (.agg [(.sl 46 0 16), (.sl 47 0 8), (.sl 48 0 8), (.sl 49 0 16), (.sl 50 0 21), (.sl 51 0 4), (.int .i64 (.ofNat 5))]) .lf))) (.bool false) (.nd (.nd (.nd (.nd .lf (.agg [(.sl 61 0 16), (.sl 62 0 8), (.sl 63 0 8), (.sl 64 0 16), (.sl 65 0 21), .nil, (.int .i64 (.ofNat 5)), (.sl 66 0 21)]) .lf) (.agg [(.sl 15 0 16), (.sl 16 0 8), (.sl 17 0 8), (.sl 18 0 16), (.sl 19 0 21), (.sl 20 0 2), (.int .i64 (.ofNat 3))]) .lf) (.bool true) (.nd (.nd .lf (.agg [(.sl 77 0 16), (.sl 78 0 8), (.sl 79 0 8), (.sl 80 0 16)]) .lf) (.agg [(.sl 31 0 16), (.sl 32 0 8), (.sl 33 0 8), (.sl 34 0 16), (.sl 35 0 21), (.sl 36 0 3), (.int .i64 (.ofNat 4))]) .lf)) (.ptr 67 0 0) (.nd (.nd (.nd .lf (.agg [(.sl 77 0 16), (.sl 78 0 8), (.sl 79 0 8), (.sl 80 0 16)]) .lf) (.tup [(.agg [(.sl 31 0 16), (.sl 32 0 8), (.sl 33 0 8), (.sl 34 0 16), (.sl 35 0 21), (.sl 36 0 3), (.int .i64 (.ofNat 4))]), (.int .i64 (.ofNat 0))]) .lf) (.tup [(.agg [(.sl 15 0 16), (.sl 16 0 8), (.sl 17 0 8), (.sl 18 0 16), (.sl 19 0 21), (.sl 20 0 2), (.int .i64 (.ofNat 3))]), (.int .i64 (.ofNat 0))]) (.nd .lf (.agg [(.sl 46 0 16), (.sl 47 0 8), (.sl 48 0 8), (.sl 49 0 16), (.sl 50 0 21), (.sl 51 0 4), (.int .i64 (.ofNat 5))]) .lf))))), [some (1, [(.bool false), (.bool false), (.bool false), (.bool false), (.bool false), (.bool false), (.bool false), (.bool false), (.bool false), (.bool false), (.bool false), (.bool false), (.bool false), (.bool false), (.bool false), (.bool false)]), some (1, [(.bool true), (.bool false), (.bool false), (.bool false), (.bool false), (.bool false), (.bool false), (.bool false)]), some (3, [(.agg [(.int .i64 (.ofNat 2)), (.int .i64 (.ofNat 1)), (.sl 7 0 2)]), (.agg [(.int .i64 (.ofNat 0)), (.int .i64 (.ofNat 0)), (.sl 8 0 2)]), (.agg [(.int .i64 (.ofNat 0)), (.int .i64 (.ofNat 0)), (.sl 9 0 2)]), (.agg [(.int .i64 (.ofNat 0)), (.int .i64 (.ofNat 0)), (.sl 10 0 2)]), (.agg [(.int .i64 (.ofNat 0)), (.int .i64 (.ofNat 0)), (.sl 11 0 2)]), (.agg [(.int .i64 (.ofNat 0)), (.int .i64 (.ofNat 0)), (.sl 12 0 2)]), (.agg [(.int .i64 (.ofNat 0)), (.int .i64 (.ofNat 0)), (.sl 13 0 2)]), (.agg [(.int .i64 (.ofNat 0)), (.int .i64 (.ofNat 0)), (.sl 14 0 2)])]), some (3, [(.agg [(.bool false), .nil, (.str ⟨#[]⟩)]), (.agg [(.bool false), .nil, (.str ⟨#[]⟩)]), (.agg [(.bool false), .nil, (.str ⟨#[]⟩)]), (.agg [(.bool false), .nil, (.str ⟨#[]⟩)]), (.agg [(.bool false), .nil, (.str ⟨#[]⟩)]), (.agg [(.bool false), .nil, (.str ⟨#[]⟩)]), (.agg [(.bool false), .nil, (.str ⟨#[]⟩)]), (.agg [(.bool false), .nil, (.str ⟨#[]⟩)]), (.agg [(.bool false), .nil, (.str ⟨#[]⟩)]), (.agg [(.bool false), .nil, (.str ⟨#[]⟩)]), (.agg [(.bool false), .nil, (.str ⟨#[]⟩)]), (.agg [(.bool false), .nil, (.str ⟨#[]⟩)]), (.agg [(.bool false), .nil, (.str ⟨#[]⟩)]), (.agg [(.bool false), .nil, (.str ⟨#[]⟩)]), (.agg [(.bool false), .nil, (.str ⟨#[]⟩)]), (.agg [(.bool false), .nil, (.str ⟨#[]⟩)])]), some (1, [(.bool false), (.bool false), (.bool false), (.bool false), (.bool false), (.bool false), (.bool false), (.bool false), (.bool false), (.bool false), (.bool false), (.bool false), (.bool false), (.bool false), (.bool false), (.bool false), (.bool false), (.bool false), (.bool false), (.bool false), (.bool false)]), some (1, [(.str ⟨#[0, 0, 1]⟩), (.str ⟨#[2, 1, 0, 0, 0, 0, 0, 0]⟩), (.str ⟨#[0, 0, 0, 0, 0, 0, 0, 0]⟩), (.str ⟨#[0, 0, 0, 0, 0, 0, 0, 0]⟩), (.str ⟨#[0, 0, 0, 0, 0, 0, 0, 0]⟩), (.str ⟨#[116]⟩), (.str ⟨#[116]⟩), (.str ⟨#[116]⟩), (.str ⟨#[116]⟩), (.str ⟨#[116]⟩), (.str ⟨#[116]⟩), (.str ⟨#[116]⟩), (.str ⟨#[116]⟩), (.str ⟨#[116]⟩), (.str ⟨#[116]⟩), (.str ⟨#[116]⟩), (.str ⟨#[116]⟩), (.str ⟨#[116]⟩), (.str ⟨#[116]⟩), (.str ⟨#[116]⟩), (.str ⟨#[116]⟩)]), some (8, [(.agg [(.sl 0 0 16), (.sl 1 0 8), (.sl 2 0 8), (.sl 3 0 16), (.sl 4 0 21), .nil, (.int .i64 (.ofNat 1)), (.sl 5 0 21)])]), some (1, [(.int .i64 (.ofNat 0)), (.int .i64 (.ofNat 0))]), some (1, [(.int .i64 (.ofNat 0)), (.int .i64 (.ofNat 0))]), some (1, [(.int .i64 (.ofNat 0)), (.int .i64 (.ofNat 0))]), some (1, [(.int .i64 (.ofNat 0)), (.int .i64 (.ofNat 0))]), some (1, [(.int .i64 (.ofNat 0)), (.int .i64 (.ofNat 0))]), some (1, [(.int .i64 (.ofNat 0)), (.int .i64 (.ofNat 0))]), some (1, [(.int .i64 (.ofNat 0)), (.int .i64 (.ofNat 0))]), some (1, [(.int .i64 (.ofNat 0)), (.int .i64 (.ofNat 0))]), some (1, [(.bool true), (.bool false), (.bool false), (.bool false), (.bool false), (.bool false), (.bool false), (.bool false), (.bool false), (.bool false), (.bool false), (.bool false), (.bool false), (.bool false), (.bool false), (.bool false)]), some (1, [(.bool true), (.bool true), (.bool false), (.bool false), (.bool false), (.bool false), (.bool false), (.bool false)]), some (3, [(.agg [(.int .i64 (.ofNat 2)), (.int .i64 (.ofNat 1)), (.sl 22 0 2)]), (.agg [(.int .i64 (.ofNat 1)), (.int .i64 (.ofNat 1)), (.sl 23 0 2)]), (.agg [(.int .i64 (.ofNat 0)), (.int .i64 (.ofNat 0)), (.sl 24 0 2)]), (.agg [(.int .i64 (.ofNat 0)), (.int .i64 (.ofNat 0)), (.sl 25 0 2)]), (.agg [(.int .i64 (.ofNat 0)), (.int .i64 (.ofNat 0)), (.sl 26 0 2)]), (.agg [(.int .i64 (.ofNat 0)), (.int .i64 (.ofNat 0)), (.sl 27 0 2)]), (.agg [(.int .i64 (.ofNat 0)), (.int .i64 (.ofNat 0)), (.sl 28 0 2)]), (.agg [(.int .i64 (.ofNat 0)), (.int .i64 (.ofNat 0)), (.sl 29 0 2)])]), some (3, [(.agg [(.bool true), (.sl 30 0 4), (.str ⟨#[]⟩)]), (.agg [(.bool false), .nil, (.str ⟨#[]⟩)]), (.agg [(.bool false), .nil, (.str ⟨#[]⟩)]), (.agg [(.bool false), .nil, (.str ⟨#[]⟩)]), (.agg [(.bool false), .nil, (.str ⟨#[]⟩)]), (.agg [(.bool false), .nil, (.str ⟨#[]⟩)]), (.agg [(.bool false), .nil, (.str ⟨#[]⟩)]), (.agg [(.bool false), .nil, (.str ⟨#[]⟩)]), (.agg [(.bool false), .nil, (.str ⟨#[]⟩)]), (.agg [(.bool false), .nil, (.str ⟨#[]⟩)]), (.agg [(.bool false), .nil, (.str ⟨#[]⟩)]), (.agg [(.bool false), .nil, (.str ⟨#[]⟩)]), (.agg [(.bool false), .nil, (.str ⟨#[]⟩)]), (.agg [(.bool false), .nil, (.str ⟨#[]⟩)]), (.agg [(.bool false), .nil, (.str ⟨#[]⟩)]), (.agg [(.bool false), .nil, (.str ⟨#[]⟩)])]), some (1, [(.bool true), (.bool true), (.bool false), (.bool false), (.bool false), (.bool true), (.bool false), (.bool false), (.bool false), (.bool false), (.bool false), (.bool false), (.bool false), (.bool false), (.bool false), (.bool false), (.bool false), (.bool false), (.bool false), (.bool false), (.bool false)]), some (11, [(.agg [(.int .i64 (.ofNat 1)), (.int .i64 (.ofNat 1)), (.int .i64 (.ofNat 1)), (.int .i64 (.ofNat 0)), (.int .i64 (.ofNat 1)), (.int .i64 (.ofNat 0)), (.str ⟨#[]⟩), (.bool false), (.bool false), (.int .i64 (.ofNat 0)), .nil]), (.agg [(.int .i64 (.ofNat 2)), (.int .i64 (.ofNat 2)), (.int .i64 (.ofNat 2)), (.int .i64 (.ofNat 0)), (.int .i64 (.ofNat 1)), (.int .i64 (.ofNat 0)), (.str ⟨#[]⟩), (.bool false), (.bool false), (.int .i64 (.ofNat 0)), .nil])]), some (7, [(.agg [(.sl 46 0 16), (.sl 47 0 8), (.sl 48 0 8), (.sl 49 0 16), (.sl 50 0 21), (.sl 51 0 4), (.int .i64 (.ofNat 5))])]), some (1, [(.int .i64 (.ofNat 1)), (.int .i64 (.ofNat 0))]), some (1, [(.int .i64 (.ofNat 0)), (.int .i64 (.ofNat 0))]), some (1, [(.int .i64 (.ofNat 0)), (.int .i64 (.ofNat 0))]), some (1, [(.int .i64 (.ofNat 0)), (.int .i64 (.ofNat 0))]), some (1, [(.int .i64 (.ofNat 0)), (.int .i64 (.ofNat 0))]), some (1, [(.int .i64 (.ofNat 0)), (.int .i64 (.ofNat 0))]), some (1, [(.int .i64 (.ofNat 0)), (.int .i64 (.ofNat 0))]), some (1, [(.int .i64 (.ofNat 0)), (.int .i64 (.ofNat 0))]), some (2, [(.agg [(.str ⟨#[97]⟩), (.int .i64 (.ofNat 2))]), (.agg [(.str ⟨#[]⟩), (.int .i64 (.ofNat 0))]), (.agg [(.str ⟨#[]⟩), (.int .i64 (.ofNat 0))]), (.agg [(.str ⟨#[]⟩), (.int .i64 (.ofNat 0))])]), some (1, [(.bool true), (.bool true), (.bool false), (.bool false), (.bool false), (.bool false), (.bool false), (.bool false), (.bool false), (.bool false), (.bool false), (.bool false), (.bool false), (.bool false), (.bool false), (.bool false)]), some (1, [(.bool true), (.bool true), (.bool false), (.bool false), (.bool false), (.bool false), (.bool false), (.bool false)]), some (3, [(.agg [(.int .i64 (.ofNat 2)), (.int .i64 (.ofNat 1)), (.sl 37 0 2)]), (.agg [(.int .i64 (.ofNat 1)), (.int .i64 (.ofNat 1)), (.sl 38 0 2)]), (.agg [(.int .i64 (.ofNat 0)), (.int .i64 (.ofNat 0)), (.sl 39 0 2)]), (.agg [(.int .i64 (.ofNat 0)), (.int .i64 (.ofNat 0)), (.sl 40 0 2)]), (.agg [(.int .i64 (.ofNat 0)), (.int .i64 (.ofNat 0)), (.sl 41 0 2)]), (.agg [(.int .i64 (.ofNat 0)), (.int .i64 (.ofNat 0)), (.sl 42 0 2)]), (.agg [(.int .i64 (.ofNat 0)), (.int .i64 (.ofNat 0)), (.sl 43 0 2)]), (.agg [(.int .i64 (.ofNat 0)), (.int .i64 (.ofNat 0)), (.sl 44 0 2)])]), some (3, [(.agg [(.bool true), (.sl 45 0 4), (.str ⟨#[]⟩)]), (.agg [(.bool false), .nil, (.str ⟨#[120]⟩)]), (.agg [(.bool false), .nil, (.str ⟨#[]⟩)]), (.agg [(.bool false), .nil, (.str ⟨#[]⟩)]), (.agg [(.bool false), .nil, (.str ⟨#[]⟩)]), (.agg [(.bool false), .nil, (.str ⟨#[]⟩)]), (.agg [(.bool false), .nil, (.str ⟨#[]⟩)]), (.agg [(.bool false), .nil, (.str ⟨#[]⟩)]), (.agg [(.bool false), .nil, (.str ⟨#[]⟩)]), (.agg [(.bool false), .nil, (.str ⟨#[]⟩)]), (.agg [(.bool false), .nil, (.str ⟨#[]⟩)]), (.agg [(.bool false), .nil, (.str ⟨#[]⟩)]), (.agg [(.bool false), .nil, (.str ⟨#[]⟩)]), (.agg [(.bool false), .nil, (.str ⟨#[]⟩)]), (.agg [(.bool false), .nil, (.str ⟨#[]⟩)]), (.agg [(.bool false), .nil, (.str ⟨#[]⟩)])]), some (1, [(.bool true), (.bool true), (.bool false), (.bool false), (.bool false), (.bool true), (.bool true), (.bool false), (.bool false), (.bool false), (.bool false), (.bool false), (.bool false), (.bool false), (.bool false), (.bool false), (.bool false), (.bool false), (.bool false), (.bool false), (.bool false)]), some (11, [(.agg [(.int .i64 (.ofNat 1)), (.int .i64 (.ofNat 1)), (.int .i64 (.ofNat 1)), (.int .i64 (.ofNat 0)), (.int .i64 (.ofNat 1)), (.int .i64 (.ofNat 0)), (.str ⟨#[]⟩), (.bool false), (.bool false), (.int .i64 (.ofNat 0)), .nil]), (.agg [(.int .i64 (.ofNat 2)), (.int .i64 (.ofNat 2)), (.int .i64 (.ofNat 2)), (.int .i64 (.ofNat 0)), (.int .i64 (.ofNat 1)), (.int .i64 (.ofNat 0)), (.str ⟨#[]⟩), (.bool false), (.bool false), (.int .i64 (.ofNat 0)), .nil]), (.agg [(.int .i64 (.ofNat 3)), (.int .i64 (.ofNat 1)), (.int .i64 (.ofNat 2)), (.int .i64 (.ofNat 0)), (.int .i64 (.ofNat 2)), (.int .i64 (.ofNat 0)), (.str ⟨#[]⟩), (.bool false), (.bool false), (.int .i64 (.ofNat 0)), .nil])]), some (1, [(.int .i64 (.ofNat 1)), (.int .i64 (.ofNat 0))]), some (1, [(.int .i64 (.ofNat 2)), (.int .i64 (.ofNat 0))]), some (1, [(.int .i64 (.ofNat 0)), (.int .i64 (.ofNat 0))]), some (1, [(.int .i64 (.ofNat 0)), (.int .i64 (.ofNat 0))]), some (1, [(.int .i64 (.ofNat 0)), (.int .i64 (.ofNat 0))]), some (1, [(.int .i64 (.ofNat 0)), (.int .i64 (.ofNat 0))]), some (1, [(.int .i64 (.ofNat 0)), (.int .i64 (.ofNat 0))]), some (1, [(.int .i64 (.ofNat 0)), (.int .i64 (.ofNat 0))]), some (2, [(.agg [(.str ⟨#[97]⟩), (.int .i64 (.ofNat 2))]), (.agg [(.str ⟨#[]⟩), (.int .i64 (.ofNat 0))]), (.agg [(.str ⟨#[]⟩), (.int .i64 (.ofNat 0))]), (.agg [(.str ⟨#[]⟩), (.int .i64 (.ofNat 0))])]), some (1, [(.bool true), (.bool true), (.bool false), (.bool false), (.bool false), (.bool false), (.bool false), (.bool false), (.bool false), (.bool false), (.bool false), (.bool false), (.bool false), (.bool false), (.bool false), (.bool false)]), some (1, [(.bool true), (.bool true), (.bool true), (.bool false), (.bool false), (.bool false), (.bool false), (.bool false)]), some (3, [(.agg [(.int .i64 (.ofNat 2)), (.int .i64 (.ofNat 1)), (.sl 52 0 2)]), (.agg [(.int .i64 (.ofNat 1)), (.int .i64 (.ofNat 1)), (.sl 53 0 2)]), (.agg [(.int .i64 (.ofNat 1)), (.int .i64 (.ofNat 1)), (.sl 54 0 2)]), (.agg [(.int .i64 (.ofNat 0)), (.int .i64 (.ofNat 0)), (.sl 55 0 2)]), (.agg [(.int .i64 (.ofNat 0)), (.int .i64 (.ofNat 0)), (.sl 56 0 2)]), (.agg [(.int .i64 (.ofNat 0)), (.int .i64 (.ofNat 0)), (.sl 57 0 2)]), (.agg [(.int .i64 (.ofNat 0)), (.int .i64 (.ofNat 0)), (.sl 58 0 2)]), (.agg [(.int .i64 (.ofNat 0)), (.int .i64 (.ofNat 0)), (.sl 59 0 2)])]), some (3, [(.agg [(.bool true), (.sl 60 0 4), (.str ⟨#[]⟩)]), (.agg [(.bool false), .nil, (.str ⟨#[120]⟩)]), (.agg [(.bool false), .nil, (.str ⟨#[]⟩)]), (.agg [(.bool false), .nil, (.str ⟨#[]⟩)]), (.agg [(.bool false), .nil, (.str ⟨#[]⟩)]), (.agg [(.bool false), .nil, (.str ⟨#[]⟩)]), (.agg [(.bool false), .nil, (.str ⟨#[]⟩)]), (.agg [(.bool false), .nil, (.str ⟨#[]⟩)]), (.agg [(.bool false), .nil, (.str ⟨#[]⟩)]), (.agg [(.bool false), .nil, (.str ⟨#[]⟩)]), (.agg [(.bool false), .nil, (.str ⟨#[]⟩)]), (.agg [(.bool false), .nil, (.str ⟨#[]⟩)]), (.agg [(.bool false), .nil, (.str ⟨#[]⟩)]), (.agg [(.bool false), .nil, (.str ⟨#[]⟩)]), (.agg [(.bool false), .nil, (.str ⟨#[]⟩)]), (.agg [(.bool false), .nil, (.str ⟨#[]⟩)])]), some (1, [(.bool true), (.bool true), (.bool true), (.bool false), (.bool false), (.bool true), (.bool true), (.bool false), (.bool false), (.bool false), (.bool false), (.bool false), (.bool false), (.bool false), (.bool false), (.bool false), (.bool false), (.bool false), (.bool false), (.bool false), (.bool false)]), some (11, [(.agg [(.int .i64 (.ofNat 1)), (.int .i64 (.ofNat 1)), (.int .i64 (.ofNat 1)), (.int .i64 (.ofNat 0)), (.int .i64 (.ofNat 1)), (.int .i64 (.ofNat 0)), (.str ⟨#[]⟩), (.bool false), (.bool false), (.int .i64 (.ofNat 0)), .nil]), (.agg [(.int .i64 (.ofNat 2)), (.int .i64 (.ofNat 2)), (.int .i64 (.ofNat 2)), (.int .i64 (.ofNat 0)), (.int .i64 (.ofNat 1)), (.int .i64 (.ofNat 0)), (.str ⟨#[]⟩), (.bool false), (.bool false), (.int .i64 (.ofNat 0)), .nil]), (.agg [(.int .i64 (.ofNat 3)), (.int .i64 (.ofNat 1)), (.int .i64 (.ofNat 2)), (.int .i64 (.ofNat 0)), (.int .i64 (.ofNat 2)), (.int .i64 (.ofNat 0)), (.str ⟨#[]⟩), (.bool false), (.bool false), (.int .i64 (.ofNat 0)), .nil]), (.agg [(.int .i64 (.ofNat 4)), (.int .i64 (.ofNat 2)), (.int .i64 (.ofNat 3)), (.int .i64 (.ofNat 0)), (.int .i64 (.ofNat 1)), (.int .i64 (.ofNat 1)), (.str ⟨#[]⟩), (.bool false), (.bool false), (.int .i64 (.ofNat 0)), .nil])]), some (1, [(.int .i64 (.ofNat 1)), (.int .i64 (.ofNat 0))]), some (1, [(.int .i64 (.ofNat 2)), (.int .i64 (.ofNat 0))]), some (1, [(.int .i64 (.ofNat 0)), (.int .i64 (.ofNat 0))]), some (1, [(.int .i64 (.ofNat 0)), (.int .i64 (.ofNat 0))]), some (1, [(.int .i64 (.ofNat 0)), (.int .i64 (.ofNat 0))]), some (1, [(.int .i64 (.ofNat 0)), (.int .i64 (.ofNat 0))]), some (1, [(.int .i64 (.ofNat 0)), (.int .i64 (.ofNat 0))]), some (1, [(.int .i64 (.ofNat 0)), (.int .i64 (.ofNat 0))]), some (2, [(.agg [(.str ⟨#[97]⟩), (.int .i64 (.ofNat 2))]), (.agg [(.str ⟨#[98]⟩), (.int .i64 (.ofNat 3))]), (.agg [(.str ⟨#[]⟩), (.int .i64 (.ofNat 0))]), (.agg [(.str ⟨#[]⟩), (.int .i64 (.ofNat 0))])]), some (1, [(.bool true), (.bool true), (.bool false), (.bool false), (.bool false), (.bool false), (.bool false), (.bool false), (.bool false), (.bool false), (.bool false), (.bool false), (.bool false), (.bool false), (.bool false), (.bool false)]), some (1, [(.bool true), (.bool true), (.bool true), (.bool false), (.bool false), (.bool false), (.bool false), (.bool false)]), some (3, [(.agg [(.int .i64 (.ofNat 2)), (.int .i64 (.ofNat 1)), (.sl 68 0 2)]), (.agg [(.int .i64 (.ofNat 1)), (.int .i64 (.ofNat 1)), (.sl 69 0 2)]), (.agg [(.int .i64 (.ofNat 1)), (.int .i64 (.ofNat 1)), (.sl 70 0 2)]), (.agg [(.int .i64 (.ofNat 0)), (.int .i64 (.ofNat 0)), (.sl 71 0 2)]), (.agg [(.int .i64 (.ofNat 0)), (.int .i64 (.ofNat 0)), (.sl 72 0 2)]), (.agg [(.int .i64 (.ofNat 0)), (.int .i64 (.ofNat 0)), (.sl 73 0 2)]), (.agg [(.int .i64 (.ofNat 0)), (.int .i64 (.ofNat 0)), (.sl 74 0 2)]), (.agg [(.int .i64 (.ofNat 0)), (.int .i64 (.ofNat 0)), (.sl 75 0 2)])]), some (3, [(.agg [(.bool true), (.sl 76 0 4), (.str ⟨#[]⟩)]), (.agg [(.bool false), .nil, (.str ⟨#[120]⟩)]), (.agg [(.bool false), .nil, (.str ⟨#[]⟩)]), (.agg [(.bool false), .nil, (.str ⟨#[]⟩)]), (.agg [(.bool false), .nil, (.str ⟨#[]⟩)]), (.agg [(.bool false), .nil, (.str ⟨#[]⟩)]), (.agg [(.bool false), .nil, (.str ⟨#[]⟩)]), (.agg [(.bool false), .nil, (.str ⟨#[]⟩)]), (.agg [(.bool false), .nil, (.str ⟨#[]⟩)]), (.agg [(.bool false), .nil, (.str ⟨#[]⟩)]), (.agg [(.bool false), .nil, (.str ⟨#[]⟩)]), (.agg [(.bool false), .nil, (.str ⟨#[]⟩)]), (.agg [(.bool false), .nil, (.str ⟨#[]⟩)]), (.agg [(.bool false), .nil, (.str ⟨#[]⟩)]), (.agg [(.bool false), .nil, (.str ⟨#[]⟩)]), (.agg [(.bool false), .nil, (.str ⟨#[]⟩)])]), some (1, [(.bool false), (.bool false), (.bool false), (.bool false), (.bool false), (.bool false), (.bool false), (.bool false), (.bool false), (.bool false), (.bool false), (.bool false), (.bool false), (.bool false), (.bool false), (.bool false), (.bool false), (.bool false), (.bool false), (.bool false), (.bool false)]), some (1, [(.str ⟨#[3, 0, 7]⟩), (.str ⟨#[2, 1, 1, 0, 1, 1, 2, 0]⟩), (.str ⟨#[1, 1, 0, 0, 0, 0, 0, 0]⟩), (.str ⟨#[0, 0, 0, 0, 0, 0, 0, 0]⟩), (.str ⟨#[0, 0, 0, 0, 0, 0, 0, 0]⟩), (.str ⟨#[100, 2, 1, 97, 3, 1, 98, 0, 0, 0, 0]⟩), (.str ⟨#[116, 120]⟩), (.str ⟨#[116]⟩), (.str ⟨#[116]⟩), (.str ⟨#[116]⟩), (.str ⟨#[116]⟩), (.str ⟨#[116]⟩), (.str ⟨#[116]⟩), (.str ⟨#[116]⟩), (.str ⟨#[116]⟩), (.str ⟨#[116]⟩), (.str ⟨#[116]⟩), (.str ⟨#[116]⟩), (.str ⟨#[116]⟩), (.str ⟨#[116]⟩), (.str ⟨#[116]⟩)]), some (8, [(.agg [(.sl 61 0 16), (.sl 62 0 8), (.sl 63 0 8), (.sl 64 0 16), (.sl 65 0 21), .nil, (.int .i64 (.ofNat 5)), (.sl 66 0 21)])]), some (1, [(.int .i64 (.ofNat 1)), (.int .i64 (.ofNat 0))]), some (1, [(.int .i64 (.ofNat 2)), (.int .i64 (.ofNat 0))]), some (1, [(.int .i64 (.ofNat 0)), (.int .i64 (.ofNat 0))]), some (1, [(.int .i64 (.ofNat 0)), (.int .i64 (.ofNat 0))]), some (1, [(.int .i64 (.ofNat 0)), (.int .i64 (.ofNat 0))]), some (1, [(.int .i64 (.ofNat 0)), (.int .i64 (.ofNat 0))]), some (1, [(.int .i64 (.ofNat 0)), (.int .i64 (.ofNat 0))]), some (1, [(.int .i64 (.ofNat 0)), (.int .i64 (.ofNat 0))]), some (2, [(.agg [(.str ⟨#[97]⟩), (.int .i64 (.ofNat 2))]), (.agg [(.str ⟨#[98]⟩), (.int .i64 (.ofNat 3))]), (.agg [(.str ⟨#[]⟩), (.int .i64 (.ofNat 0))]), (.agg [(.str ⟨#[]⟩), (.int .i64 (.ofNat 0))])]), some (1, [(.bool true), (.bool true), (.bool false), (.bool false), (.bool false), (.bool false), (.bool false), (.bool false), (.bool false), (.bool false), (.bool false), (.bool false), (.bool false), (.bool false), (.bool false), (.bool false)]), some (1, [(.bool true), (.bool true), (.bool true), (.bool false), (.bool false), (.bool false), (.bool false), (.bool false)]), some (3, [(.agg [(.int .i64 (.ofNat 2)), (.int .i64 (.ofNat 1)), (.sl 82 0 2)]), (.agg [(.int .i64 (.ofNat 1)), (.int .i64 (.ofNat 1)), (.sl 83 0 2)]), (.agg [(.int .i64 (.ofNat 1)), (.int .i64 (.ofNat 1)), (.sl 84 0 2)]), (.agg [(.int .i64 (.ofNat 0)), (.int .i64 (.ofNat 0)), (.sl 85 0 2)]), (.agg [(.int .i64 (.ofNat 0)), (.int .i64 (.ofNat 0)), (.sl 86 0 2)]), (.agg [(.int .i64 (.ofNat 0)), (.int .i64 (.ofNat 0)), (.sl 87 0 2)]), (.agg [(.int .i64 (.ofNat 0)), (.int .i64 (.ofNat 0)), (.sl 88 0 2)]), (.agg [(.int .i64 (.ofNat 0)), (.int .i64 (.ofNat 0)), (.sl 89 0 2)])]), some (3, [(.agg [(.bool true), (.sl 90 0 4), (.str ⟨#[]⟩)]), (.agg [(.bool false), .nil, (.str ⟨#[120]⟩)]), (.agg [(.bool false), .nil, (.str ⟨#[]⟩)]), (.agg [(.bool false), .nil, (.str ⟨#[]⟩)]), (.agg [(.bool false), .nil, (.str ⟨#[]⟩)]), (.agg [(.bool false), .nil, (.str ⟨#[]⟩)]), (.agg [(.bool false), .nil, (.str ⟨#[]⟩)]), (.agg [(.bool false), .nil, (.str ⟨#[]⟩)]), (.agg [(.bool false), .nil, (.str ⟨#[]⟩)]), (.agg [(.bool false), .nil, (.str ⟨#[]⟩)]), (.agg [(.bool false), .nil, (.str ⟨#[]⟩)]), (.agg [(.bool false), .nil, (.str ⟨#[]⟩)]), (.agg [(.bool false), .nil, (.str ⟨#[]⟩)]), (.agg [(.bool false), .nil, (.str ⟨#[]⟩)]), (.agg [(.bool false), .nil, (.str ⟨#[]⟩)]), (.agg [(.bool false), .nil, (.str ⟨#[]⟩)])]), some (4, [(.agg [(.sl 77 0 16), (.sl 78 0 8), (.sl 79 0 8), (.sl 80 0 16)])]), some (1, [(.int .i64 (.ofNat 1)), (.int .i64 (.ofNat 0))]), some (1, [(.int .i64 (.ofNat 2)), (.int .i64 (.ofNat 0))]), some (1, [(.int .i64 (.ofNat 0)), (.int .i64 (.ofNat 0))]), some (1, [(.int .i64 (.ofNat 0)), (.int .i64 (.ofNat 0))]), some (1, [(.int .i64 (.ofNat 0)), (.int .i64 (.ofNat 0))]), some (1, [(.int .i64 (.ofNat 0)), (.int .i64 (.ofNat 0))]), some (1, [(.int .i64 (.ofNat 0)), (.int .i64 (.ofNat 0))]), some (1, [(.int .i64 (.ofNat 0)), (.int .i64 (.ofNat 0))]), some (2, [(.agg [(.str ⟨#[97]⟩), (.int .i64 (.ofNat 2))]), (.agg [(.str ⟨#[98]⟩), (.int .i64 (.ofNat 3))]), (.agg [(.str ⟨#[]⟩), (.int .i64 (.ofNat 0))]), (.agg [(.str ⟨#[]⟩), (.int .i64 (.ofNat 0))])])]⟩
def tblL : List (Nat × CF) := (47, .orc (memoG [(A0, R0)])) :: (48, .orc (memoG [(A1, R1), (A3, R3)])) :: (49, .orc (memoG [(A2, R2)])) :: (50, .orc (memoG [(A12, R12)])) :: (51, .orc (memoG [(A13, R13)])) :: (53, .orc (memoG [(A15, R15)])) :: tblB
theorem tblL_ok : TblOk TB tblL := ⟨memo_ok (fun p hp => by simp only [List.mem_cons, List.not_mem_nil, or_false] at hp; subst hp; exact m0), ⟨memo_ok (fun p hp => by simp only [List.mem_cons, List.not_mem_nil, or_false] at hp; rcases hp with rfl | rfl <;> first | exact m1 | exact m3), ⟨memo_ok (fun p hp => by simp only [List.mem_cons, List.not_mem_nil, or_false] at hp; subst hp; exact m2), ⟨memo_ok (fun p hp => by simp only [List.mem_cons, List.not_mem_nil, or_false] at hp; subst hp; exact m12), ⟨memo_ok (fun p hp => by simp only [List.mem_cons, List.not_mem_nil, or_false] at hp; subst hp; exact m13), ⟨memo_ok (fun p hp => by simp only [List.mem_cons, List.not_mem_nil, or_false] at hp; subst hp; exact m15), tblB_ok⟩⟩⟩⟩⟩⟩
def mid9 : EC := .seq (sqL b3) (.seq (sqL b4) (.seq (sqL b5) (.seq (sqL b6) (.seq (sqL b7) (.seq (sqL b8) (.seq (sqL b9) (.seq (sqL b10) (sqL b11))))))))
theorem mid9_run (L : List AV) : cvC (crun tblL 5000 60) 5000 mid9 (S2 L) = some (.normal, S11 L) := by kernel_rfl
theorem mid9_is (L : List AV) {y : AX} {s : CS} (h : RunC TB 0 b12 (S11 L) y s) : RunC TB 0 b3 (S2 L) y s := by
  have cL : Go.Abs.Comes TB (crun tblL 5000 60) := crun_comes tblL_ok _ _
  have h3 := mid9_run L
  unfold mid9 at h3
  obtain ⟨s3, e3, h4⟩ := cv_seq h3
  obtain ⟨s4, e4, h5⟩ := cv_seq h4
  obtain ⟨s5, e5, h6⟩ := cv_seq h5
  obtain ⟨s6, e6, h7⟩ := cv_seq h6
  obtain ⟨s7, e7, h8⟩ := cv_seq h7
  obtain ⟨s8, e8, h9⟩ := cv_seq h8
  obtain ⟨s9, e9, h10⟩ := cv_seq h9
  obtain ⟨s10, e10, h11⟩ := cv_seq h10
  rw [b3_eq, b4_eq, b5_eq, b6_eq, b7_eq, b8_eq, b9_eq, b10_eq, b11_eq]
  exact .seq (.of cL e3) (.seq (.of cL e4) (.seq (.of cL e5) (.seq (.of cL e6) (.seq (.of cL e7) (.seq (.of cL e8) (.seq (.of cL e9) (.seq (.of cL e10) (.seq (.of cL h11) h))))))))
end Go.Proofs.YtaaajjinpppgeaaGreat
namespace Go.Proofs.YtaaajjinpppgeaaGreat
open Go Go.Abs
set_option maxRecDepth 100000
theorem and255 (a : Int) : 0 ≤ IntKind.i64.wrap ((BitVec.ofInt IntKind.i64.bits a &&& BitVec.ofInt IntKind.i64.bits 255).toNat : Int) ∧ IntKind.i64.wrap ((BitVec.ofInt IntKind.i64.bits a &&& BitVec.ofInt IntKind.i64.bits 255).toNat : Int) ≤ 255 := by
  have h : (BitVec.ofInt IntKind.i64.bits a &&& BitVec.ofInt IntKind.i64.bits 255).toNat ≤ 255 := by
    rw [BitVec.toNat_and]
    exact Nat.le_trans Nat.and_le_right (by decide)
  rw [w_i64 _ (by omega)]
  omega
theorem shr33 (a : Int) : binV .shr (.int .i64 a) (.int .u64 33) = some (.int .i64 (a.fdiv (2 ^ (Nat.min (33 : Int).toNat IntKind.i64.bits)))) := rfl
theorem shr45 (a : Int) : binV .shr (.int .i64 a) (.int .u64 45) = some (.int .i64 (a.fdiv (2 ^ (Nat.min (45 : Int).toNat IntKind.i64.bits)))) := rfl
theorem xorI (a b : Int) : binV .xor (.int .i64 a) (.int .i64 b) = some (.int .i64 (IntKind.i64.wrap (BitVec.ofInt IntKind.i64.bits a ^^^ BitVec.ofInt IntKind.i64.bits b).toNat)) := rfl
theorem andI (a b : Int) : binV .and (.int .i64 a) (.int .i64 b) = some (.int .i64 (IntKind.i64.wrap (BitVec.ofInt IntKind.i64.bits a &&& BitVec.ofInt IntKind.i64.bits b).toNat)) := rfl
def by8 (l : List Int) : AV := .ro 1 (l.map (AV.int .u8))
def gm (l : List Int) (i : Nat) (s : Int) : Mem := [some (3, [.agg [by8 l, .int .i64 (i : Nat), .int .i64 s]])]
theorem e145 (l : List Int) (hl : l.length ≤ 1048576) (i : Nat) (s : Int) (hi : i ≤ 1048576) : ∃ (b : Int) (i' : Nat) (s' : Int), E TB 145 [.ptr 0 0 0] (gm l i s) = some (.int .i64 b, gm l i' s') ∧ 0 ≤ b ∧ b ≤ 255 ∧ i' ≤ 1048576 := by
  rw [E_eq (tB t145 rfl) (Nat.le_of_ble_eq_true rfl)]
  by_cases hh : i < l.length
  · obtain ⟨p, hp⟩ := Go.Abs.get_at hh
    have hh' : (i : Int) < (l.length : Int) := by omega
    simp only [F145, gm, by8, shr33, shr45, xorI, andI, go_sem, seval, bnd_ite, hh', gD_map hp, Int.natCast_nonneg, w_i64 ((i : Int) + 1) (by omega), List.length_map, decide_true]
    exact ⟨_, i + 1, _, rfl, (and255 _).1, (and255 _).2, by omega⟩
  · have hh' : ¬ (i : Int) < (l.length : Int) := by omega
    simp only [F145, gm, by8, shr33, shr45, xorI, andI, go_sem, seval, bnd_ite, hh', Int.natCast_nonneg, List.length_map, decide_false]
    exact ⟨_, i, _, rfl, (and255 _).1, (and255 _).2, hi⟩
theorem e114 (l : List Int) (hl : l.length ≤ 1048576) (i : Nat) (s : Int) (hi : i ≤ 1048576) : ∃ (v : Int) (i' : Nat) (s' : Int), E TB 114 [.ptr 0 0 0, .int .i64 10000] (gm l i s) = some (.int .i64 v, gm l i' s') ∧ 0 ≤ v ∧ v ≤ 9999 ∧ i' ≤ 1048576 := by
  obtain ⟨b1, i1, s1, h1, p1, q1, r1⟩ := e145 l hl i s hi
  obtain ⟨b2, i2, s2, h2, p2, q2, r2⟩ := e145 l hl i1 s1 r1
  obtain ⟨b3, i3, s3, h3, p3, q3, r3⟩ := e145 l hl i2 s2 r2
  obtain ⟨b4, i4, s4, h4, p4, q4, r4⟩ := e145 l hl i3 s3 r3
  rw [E_eq (tB t114 rfl) (Nat.le_of_ble_eq_true rfl)]
  simp only [gm, by8] at h1 h2 h3 h4
  have w1 := w_i64 (b1 * 16777216) (by omega)
  have w2 := w_i64 (b2 * 65536) (by omega)
  have w3 := w_i64 (b1 * 16777216 + b2 * 65536) (by omega)
  have w4 := w_i64 (b3 * 256) (by omega)
  have w5 := w_i64 (b1 * 16777216 + b2 * 65536 + b3 * 256) (by omega)
  have w6 := w_i64 (b1 * 16777216 + b2 * 65536 + b3 * 256 + b4) (by omega)
  simp only [F114, gm, by8, go_sem, seval, bnd_ite, h1, h2, h3, h4, w1, w2, w3, w4, w5, w6]
  refine ⟨_, i4, s4, rfl, ?_, ?_, r4⟩
  · exact Int.tmod_nonneg _ (by omega)
  · have := Int.tmod_lt_of_pos (b1 * 16777216 + b2 * 65536 + b3 * 256 + b4) (show (0 : Int) < 10000 by omega)
    omega
theorem e104 (l : List Int) (hl : l.length ≤ 1048576) : ∃ s : Int, E TB 104 [by8 l] [] = some (.box (.agg [by8 l, .int .i64 0, .int .i64 s]), []) := by
  rw [E_eq (tB t104 rfl) (Nat.le_of_ble_eq_true rfl)]
  have w0 := w_i64 (37701 + (l.length : Int)) (by omega)
  simp only [F104, by8, h104_3, go_sem, seval, bnd_ite, List.length_map, w0]
  obtain ⟨⟨z, e, m⟩, k1, kx, k2, km, k0, hh, k3⟩ := XL_inv (T := TB) (b := 0) (hd := H104_3) (x := L104_3) (β := Int) (fun i h => ⟨[(0, .ro 1 (l.map (AV.int .u8))), (3, .int .i64 h), (4, .int .i64 (i : Nat))], []⟩) (fun _ _ => True) (min l.length 4000)
    (fun r => r.1 = .exit 0 ∧ r.2.mem = [] ∧ lookA r.2.env 0 = .ro 1 (l.map (AV.int .u8)) ∧ ∃ h, lookA r.2.env 3 = .int .i64 h) (by
      intro i a hi _
      left
      have hi' : i < l.length := by omega
      obtain ⟨p, hp⟩ := Go.Abs.get_at hi'
      have c1 : (i : Int) < (l.length : Int) := by omega
      have c2 : (i : Int) < 4000 := by omega
      have hc : ((i + 1 : Nat) : Int) = (i : Int) + 1 := by omega
      simp only [hc, XG, L104_3, h104_3, go_sem, seval, bnd_ite, List.length_map, c1, c2, gD_map hp, andI, Int.natCast_nonneg, w_i64 ((i : Int) + 1) (by omega), decide_true]
      first | exact ⟨_, rfl, trivial⟩ | exact ⟨_, rfl⟩) (by
      intro a _
      by_cases hc : l.length ≤ 4000
      · have e1 : min l.length 4000 = l.length := by omega
        rw [e1]
        have c1 : ¬ (l.length : Int) < (l.length : Int) := by omega
        simp only [XG, L104_3, h104_3, go_sem, seval, bnd_ite, List.length_map, c1, decide_false]
        exact .mk (by simp) ⟨rfl, rfl, rfl, a, rfl⟩
      · have e1 : min l.length 4000 = 4000 := by omega
        rw [e1]
        have c1 : ((4000 : Nat) : Int) < (l.length : Int) := by omega
        have c2 : ¬ ((4000 : Nat) : Int) < 4000 := by omega
        simp only [XG, L104_3, h104_3, go_sem, seval, bnd_ite, List.length_map, c1, c2, decide_true, decide_false]
        exact .mk (by simp) ⟨rfl, rfl, rfl, a, rfl⟩) 0 (37701 + (l.length : Int)) (by omega) trivial
  have hs0 : ((0 : Nat) : Int) = 0 := rfl
  rw [hs0] at k1
  rw [k1]
  simp only at kx k2 km k0 k3
  subst k2 km
  simp only [go_sem, seval, bnd_ite, k0, k3]
  exact ⟨hh, rfl⟩
def iw (z : Int) : AV := .int .i64 z
theorem iw_cool (x : Int) : coolX (iw x) = true := rfl
theorem iwf (A : List Int) (d : Int) : ∃ M, A.map iw = M ∧ M.length = A.length ∧ (∀ g, mapIdL g M = M) ∧ (∀ u, idsL u M = []) ∧ M.take A.length = M ∧ M ++ [AV.int .i64 d] = (A ++ [d]).map iw ∧ coolR 1 M = true ∧ iceL M = M :=
  ⟨_, rfl, by simp, fun g => mi_map g iw A iw_cool, fun u => is_map u iw A iw_cool, List.take_of_length_le (by simp), by rw [List.map_append]; rfl, coR_map 1 iw A (fun _ => rfl) iw_cool, by rw [ice_m]; exact List.map_congr_left fun x _ => rfl⟩
theorem e54 (l : List Int) (hl : l.length ≤ 1048576) : ∃ xs : List Int, xs.length = 12 ∧ (∀ x ∈ xs, 0 ≤ x ∧ x ≤ 9999) ∧ E TB 54 [by8 l] [] = some (.own 1 (xs.map (AV.int .i64)), []) := by
  obtain ⟨s, hs⟩ := e104 l hl
  obtain ⟨b0, i0, s0, h0, -, -, r0⟩ := e145 l hl 0 s (by omega)
  rw [E_eq (tB t54 rfl) (Nat.le_of_ble_eq_true rfl)]
  simp only [gm, by8] at hs h0
  have hz : ((0 : Nat) : Int) = 0 := rfl
  rw [hz] at h0
  simp only [F54, by8, h54_5, go_sem, seval, bnd_ite, hs, h0]
  obtain ⟨⟨z, e, m⟩, k1, kx, k2, xs, ka, kb, kc, i9, s9, km⟩ := XL_inv (T := TB) (b := 0) (hd := H54_5) (x := L54_5) (β := Nat × Int × List Int)
    (fun k a => ⟨[(3, .ptr 0 0 0), (4, .sl 1 0 k), (5, .int .i64 (k : Nat))], [some (3, [.agg [.ro 1 (l.map (AV.int .u8)), .int .i64 (a.1 : Nat), .int .i64 a.2.1]]), some (1, a.2.2.map iw)]⟩)
    (fun k a => a.1 ≤ 1048576 ∧ a.2.2.length = k ∧ ∀ x ∈ a.2.2, 0 ≤ x ∧ x ≤ 9999) 12
    (fun r => r.1 = .exit 0 ∧ ∃ xs : List Int, xs.length = 12 ∧ (∀ x ∈ xs, 0 ≤ x ∧ x ≤ 9999) ∧ lookA r.2.env 4 = .sl 1 0 12 ∧ ∃ (i : Nat) (s : Int), r.2.mem = [some (3, [.agg [.ro 1 (l.map (AV.int .u8)), .int .i64 (i : Nat), .int .i64 s]]), some (1, xs.map iw)]) (by
      rintro k ⟨i, s, vs⟩ hk ⟨hi, hv, hb⟩
      simp only at hi hv hb
      left
      obtain ⟨v, i', s', h1, p1, q1, r1⟩ := e114 l hl i s hi
      simp only [gm, by8] at h1
      have c1 : (k : Int) < 12 := by omega
      have hc : ((k + 1 : Nat) : Int) = (k : Int) + 1 := by omega
      obtain ⟨M, hM, ml, mi, ms, mt, ma, mc, mx⟩ := iwf vs v
      rw [hv] at ml mt
      have hap : (k + 1) * 8 ≤ 140737488355328 := by omega
      refine ⟨(i', s', vs ++ [v]), ?_, r1, by simp [hv], fun x hx => ?_⟩
      · simp only [hM, ← ma, hc]
        simp only [XG, L54_5, h54_5, go_sem, seval, bnd_ite, c1, h1, w_i64 ((k : Int) + 1) (by omega), ml, mi, ms, mt, mc, mx, hap, decide_true]
        first | done | rfl
      · rw [List.mem_append, List.mem_singleton] at hx
        rcases hx with hx | rfl
        · exact hb x hx
        · exact ⟨p1, q1⟩) (by
      rintro ⟨i, s, vs⟩ ⟨hi, hv, hb⟩
      have c1 : ¬ ((12 : Nat) : Int) < 12 := by omega
      simp only [XG, L54_5, h54_5, go_sem, seval, bnd_ite, c1, decide_false]
      exact .mk (by simp) ⟨rfl, vs, hv, hb, rfl, i, s, rfl⟩) 0 (i0, s0, []) (by omega) ⟨r0, rfl, fun x hx => by cases hx⟩
  rw [hz] at k1
  rw [show (i0, s0, ([] : List Int)).2.2.map iw = [] from rfl] at k1
  simp only at k1
  rw [k1]
  simp only at kx k2 km kc
  subst k2 km
  obtain ⟨M, hM, ml, mi, ms, mt, ma, mc, mx⟩ := iwf xs 0
  rw [ka] at ml mt
  refine ⟨xs, ka, kb, ?_⟩
  show _ = some (AV.own 1 (xs.map iw), [])
  simp only [hM]
  simp only [go_sem, seval, bnd_ite, kc, ml, mi, ms, mt, mc, mx]
  first | done | rfl
end Go.Proofs.YtaaajjinpppgeaaGreat
namespace Go.Proofs.YtaaajjinpppgeaaGreat
open Go Go.Abs
set_option maxRecDepth 100000
theorem e28 (L : List AV) : E TB 28 [.ro 1 L] [] = some (.bool (decide ((L.length : Int) > 1048576)), []) := by
  rw [E_eq (tB c28 rfl) (Nat.le_of_ble_eq_true rfl)]
  simp only [C28, go_sem, seval]
  first | done | rfl
def U0 (L : List AV) : CS := ⟨(.nd .lf (.ro 1 L) (.nd .lf (.bool false) .lf)), []⟩
def U0a (L : List AV) : CS := ⟨Tr.set 12 (U0 L).tr 11 (.ro 1 L), []⟩
def U1 (L : List AV) (b : Bool) : CS := ⟨Tr.set 12 (U0a L).tr 12 (.bool b), []⟩
theorem p0_run (L : List AV) : cvC (crun tblB 5000 60) 5000 (sqL C9.body) ⟨trA 0 [.ro 1 L] .lf, []⟩ = some (.normal, U0 L) := by kernel_rfl
theorem p1_eq : sqL (sqL (sqR C9.body)) = .view [.all 3] (.region [.op .mv [.tmp 0] (some 11) true, .pc (.const (.fn 28 [])) [.tmp 11] (some 12) true] false) := by kernel_rfl
theorem p1_mv (L : List AV) : cvI (crun tblB 5000 60) false (.op .mv [.tmp 0] (some 11) true) (U0 L) = some (U0a L) := by kernel_rfl
theorem p1_ar (L : List AV) : [Opd.tmp 11].map (getC (U0a L).tr) = [.ro 1 L] := by kernel_rfl
theorem p1_is (L : List AV) (b : Bool) (hb : decide ((L.length : Int) > 1048576) = b) : RunC TB 0 (sqL (sqL (sqR C9.body))) (U0 L) .normal (U1 L b) := by
  rw [p1_eq]
  refine .view (s1 := U0 L) rfl (.region (.cons (s1 := U0a L) (.of cB (p1_mv L)) (.cons (s1 := U1 L b) ?_ .nil)))
  exact RunI.pc (v := (.bool b, none)) (p1_ar L) rfl rfl (by rw [e28, hb]) rfl rfl
theorem p2_big (L : List AV) : bnd (cvC (crun tblB 5000 60) 5000 (sqR (sqL (sqR C9.body))) (U1 L true)) (retC C9.results 0) = some (.bool true, []) := by kernel_rfl
theorem p2_small (L : List AV) : cvC (crun tblB 5000 60) 5000 (sqR (sqL (sqR C9.body))) (U1 L false) = some (.normal, S2 L) := by kernel_rfl
def V1 (L : List AV) : CS := ⟨(S11 L).tr, allM 3 (S11 L).mem⟩
def V2 (L : List AV) : CS := ⟨Tr.set 12 (V1 L).tr 44 (.ro 1 L), (V1 L).mem⟩
def V3 (L X : List AV) : CS := ⟨Tr.set 12 (V2 L).tr 45 (.sl (V2 L).mem.length 0 12), (V2 L).mem ++ [some (1, X)]⟩
def V4 (L X : List AV) (a r : Int) : CS := ⟨Tr.set 12 (Tr.set 12 (Tr.set 12 (V3 L X).tr 46 (.ptr (V2 L).mem.length 0 0)) 47 (.int .i64 a)) 48 (.int .i64 r), (V3 L X).mem⟩
def X12 (a0 a1 a2 a3 a4 a5 a6 a7 a8 a9 a10 a11 : Int) : List AV := [.int .i64 a0, .int .i64 a1, .int .i64 a2, .int .i64 a3, .int .i64 a4, .int .i64 a5, .int .i64 a6, .int .i64 a7, .int .i64 a8, .int .i64 a9, .int .i64 a10, .int .i64 a11]
def reg12 : List EI := match p12 with | .view _ (.region l _) => l | .region l _ => l | _ => []
theorem p12_eq : p12 = .view [.all 3] (.region (.op .mv [.tmp 0] (some 44) true :: .pc (.const (.fn 54 [])) [.tmp 44] (some 45) true :: reg12.drop 2) false) := by kernel_rfl
theorem p12_mv (L : List AV) : cvI (crun tblB 5000 60) false (.op .mv [.tmp 0] (some 44) true) (V1 L) = some (V2 L) := by kernel_rfl
theorem p12_ar (L : List AV) : [Opd.tmp 44].map (getC (V2 L).tr) = [.ro 1 L] := by kernel_rfl
theorem p12_rest (L : List AV) (a0 a1 a2 a3 a4 a5 a6 a7 a8 a9 a10 a11 : Int) : cvR (crun tblB 5000 60) false (reg12.drop 2) (V3 L (X12 a0 a1 a2 a3 a4 a5 a6 a7 a8 a9 a10 a11)) = some (V4 L (X12 a0 a1 a2 a3 a4 a5 a6 a7 a8 a9 a10 a11) a0 (a0.tmod 5)) := by kernel_rfl
theorem p12_is (L : List AV) (a0 a1 a2 a3 a4 a5 a6 a7 a8 a9 a10 a11 : Int) (h : E TB 54 [.ro 1 L] [] = some (.own 1 (X12 a0 a1 a2 a3 a4 a5 a6 a7 a8 a9 a10 a11), [])) :
    RunC TB 0 p12 (S11 L) .normal (V4 L (X12 a0 a1 a2 a3 a4 a5 a6 a7 a8 a9 a10 a11) a0 (a0.tmod 5)) := by
  rw [p12_eq]
  refine .view (s1 := V1 L) rfl (.region (.cons (s1 := V2 L) (.of cB (p12_mv L)) (.cons (s1 := V3 L (X12 a0 a1 a2 a3 a4 a5 a6 a7 a8 a9 a10 a11)) ?_ (.of cB (p12_rest L a0 a1 a2 a3 a4 a5 a6 a7 a8 a9 a10 a11)))))
  exact RunI.pc (v := (.sl (V2 L).mem.length 0 12, some ((V2 L).mem ++ [some (1, X12 a0 a1 a2 a3 a4 a5 a6 a7 a8 a9 a10 a11)]))) (p12_ar L) rfl rfl h rfl rfl
end Go.Proofs.YtaaajjinpppgeaaGreat
namespace Go.Proofs.YtaaajjinpppgeaaGreat
open Go Go.Abs
set_option maxRecDepth 100000
def A14 : List AV := [D26]
def R14 : AV := (.bool true)
theorem m14 : E TB 57 A14 [] = some (R14, []) := crun_ok tblB_ok (fuel := 5000) (n := 60) (by kernel_rfl)
end Go.Proofs.YtaaajjinpppgeaaGreat
namespace Go.Proofs.YtaaajjinpppgeaaGreat
open Go Go.Abs
set_option maxRecDepth 100000
def A16 : List AV := [D27]
def R16 : AV := (.bool false)
theorem m16 : E TB 57 A16 [] = some (R16, []) := crun_ok tblB_ok (fuel := 5000) (n := 60) (by kernel_rfl)
end Go.Proofs.YtaaajjinpppgeaaGreat
namespace Go.Proofs.YtaaajjinpppgeaaGreat
open Go Go.Abs
set_option maxRecDepth 100000
def A17 : List AV := [D27]
def R17 : AV := D28
theorem m17 : E TB 100 A17 [] = some (R17, []) := crun_ok tblB_ok (fuel := 5000) (n := 60) (by kernel_rfl)
end Go.Proofs.YtaaajjinpppgeaaGreat
namespace Go.Proofs.YtaaajjinpppgeaaGreat
open Go Go.Abs
set_option maxRecDepth 100000
def A18 : List AV := [D27]
def R18 : AV := D29
theorem m18 : E TB 99 A18 [] = some (R18, []) := crun_ok tblB_ok (fuel := 5000) (n := 60) (by kernel_rfl)
end Go.Proofs.YtaaajjinpppgeaaGreat
namespace Go.Proofs.YtaaajjinpppgeaaGreat
open Go Go.Abs
set_option maxRecDepth 100000
def A19 : List AV := [D30]
def R19 : AV := (.own 1 [(.int .i64 (.ofNat 1)), (.int .i64 (.ofNat 3))])
theorem m19 : E TB 76 A19 [] = some (R19, []) := crun_ok tblB_ok (fuel := 5000) (n := 60) (by kernel_rfl)
end Go.Proofs.YtaaajjinpppgeaaGreat
namespace Go.Proofs.YtaaajjinpppgeaaGreat
open Go Go.Abs
set_option maxRecDepth 100000
def A20 : List AV := [D30, (.int .i64 (.ofNat 3))]
def R20 : AV := (.int .i64 (.ofNat 1))
def tbl20 : List (Nat × CF) := (76, .orc (memoG [(A19, R19)])) :: tblB
theorem tbl20_ok : TblOk TB tbl20 := ⟨memo_ok (fun p hp => by simp only [List.mem_cons, List.not_mem_nil, or_false] at hp; subst hp; exact m19), tblB_ok⟩
theorem m20 : E TB 78 A20 [] = some (R20, []) := crun_ok tbl20_ok (fuel := 5000) (n := 60) (by kernel_rfl)
end Go.Proofs.YtaaajjinpppgeaaGreat
namespace Go.Proofs.YtaaajjinpppgeaaGreat
open Go Go.Abs
set_option maxRecDepth 100000
def A21 : List AV := [D30]
def R21 : AV := (.own 1 [(.int .i64 (.ofNat 1))])
def tbl21 : List (Nat × CF) := (76, .orc (memoG [(A19, R19)])) :: tblB
theorem tbl21_ok : TblOk TB tbl21 := ⟨memo_ok (fun p hp => by simp only [List.mem_cons, List.not_mem_nil, or_false] at hp; subst hp; exact m19), tblB_ok⟩
theorem m21 : E TB 79 A21 [] = some (R21, []) := crun_ok tbl21_ok (fuel := 5000) (n := 60) (by kernel_rfl)
end Go.Proofs.YtaaajjinpppgeaaGreat
namespace Go.Proofs.YtaaajjinpppgeaaGreat
open Go Go.Abs
set_option maxRecDepth 100000
def A22 : List AV := [D30]
def R22 : AV := D31
def tbl22 : List (Nat × CF) := (76, .orc (memoG [(A19, R19)])) :: (78, .orc (memoG [(A20, R20)])) :: (79, .orc (memoG [(A21, R21)])) :: tblB
theorem tbl22_ok : TblOk TB tbl22 := ⟨memo_ok (fun p hp => by simp only [List.mem_cons, List.not_mem_nil, or_false] at hp; subst hp; exact m19), ⟨memo_ok (fun p hp => by simp only [List.mem_cons, List.not_mem_nil, or_false] at hp; subst hp; exact m20), ⟨memo_ok (fun p hp => by simp only [List.mem_cons, List.not_mem_nil, or_false] at hp; subst hp; exact m21), tblB_ok⟩⟩⟩
theorem m22 : E TB 20 A22 [] = some (R22, []) := crun_ok tbl22_ok (fuel := 5000) (n := 60) (by kernel_rfl)
end Go.Proofs.YtaaajjinpppgeaaGreat
namespace Go.Proofs.YtaaajjinpppgeaaGreat
open Go Go.Abs
set_option maxRecDepth 100000
def A23 : List AV := [D27]
def R23 : AV := D31
def tbl23 : List (Nat × CF) := (100, .orc (memoG [(A17, R17)])) :: (99, .orc (memoG [(A18, R18)])) :: (20, .orc (memoG [(A22, R22)])) :: tblB
theorem tbl23_ok : TblOk TB tbl23 := ⟨memo_ok (fun p hp => by simp only [List.mem_cons, List.not_mem_nil, or_false] at hp; subst hp; exact m17), ⟨memo_ok (fun p hp => by simp only [List.mem_cons, List.not_mem_nil, or_false] at hp; subst hp; exact m18), ⟨memo_ok (fun p hp => by simp only [List.mem_cons, List.not_mem_nil, or_false] at hp; subst hp; exact m22), tblB_ok⟩⟩⟩
theorem m23 : E TB 26 A23 [] = some (R23, []) := crun_ok tbl23_ok (fuel := 5000) (n := 60) (by kernel_rfl)
end Go.Proofs.YtaaajjinpppgeaaGreat
namespace Go.Proofs.YtaaajjinpppgeaaGreat
open Go Go.Abs
set_option maxRecDepth 100000
def A24 : List AV := [D32]
def R24 : AV := (.bool true)
theorem m24 : E TB 57 A24 [] = some (R24, []) := crun_ok tblB_ok (fuel := 5000) (n := 60) (by kernel_rfl)
end Go.Proofs.YtaaajjinpppgeaaGreat
