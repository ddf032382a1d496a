/- Part 2 of the texts of a claim, joined by a program of ours (Ft, Fq, Ia, Lp, Oa, Ob, Oc, Od, Oe, Ja, Lz, Of, Fg, Fa). No condition. -/
import Derived.Test.YtaaajjinpppgeaaJ24a
set_option linter.unusedVariables false
set_option linter.unusedSimpArgs false
set_option linter.unusedSectionVars false
/- The code of some functions, as the evaluator reads it (printed by a program of ours), checked against the program. Own work; no condition. -/
set_option linter.unusedVariables false
set_option linter.unusedSimpArgs false
set_option linter.unusedSectionVars false
namespace Go.Proofs.Ytaaajjinpppgeaa
open Go Go.Abs
set_option maxRecDepth 100000
-- spec.BitsOk
def F219 : EF := ⟨(.seq (.region [(.op (.box 2) [(.tmp 0)] (some 1) true), (.op .mv [(.const (.bool false))] (some 2) true)] false) (.seq (.region [(.op (.faddr 0) [(.tmp 1)] (some 3) true), (.op .load1 [(.tmp 3)] (some 4) true), (.op .len [(.tmp 4)] (some 5) true), (.op (.bin .eql) [(.tmp 5), (.const (.int .i64 16))] (some 6) true), (.op .mv [(.tmp 6)] (some 7) true), (.grp 7 true [(.op (.faddr 1) [(.tmp 1)] (some 8) true), (.op .load1 [(.tmp 8)] (some 9) true), (.op .len [(.tmp 9)] (some 10) true), (.op (.bin .eql) [(.tmp 10), (.const (.int .i64 8))] (some 11) true)] 11 12 true), (.op .mv [(.tmp 12)] (some 2) true)] false) .ret)), [(.tmp 2)], 13, .one, none⟩
theorem t219 : T 219 = some F219 := tab Try.func219 (by kernel_rfl) rfl
def H220_4 : List Vw := [.tidy [1, 3] [(1, none), (3, none)]]
theorem h220_4 (b : Nat) (s : St) : vwL b H220_4 s = vwL b [.tidy [1, 3] [(1, none), (3, none)]] s := rfl
def L220_4 : EC := (.seq (.seq (.region [(.op .mv [(.tmp 3)] (some 20) true), (.op (.bin .lss) [(.tmp 20), (.const (.int .i64 2))] (some 21) true)] false) (.cond (.tmp 21) .skip (.exit 0))) (.seq (.block 1 (.seq (.region [(.op (.faddr 2) [(.tmp 1)] (some 24) true), (.op .load1 [(.tmp 24)] (some 25) true), (.op .mv [(.tmp 3)] (some 26) true), (.op (.iaddr 1) [(.tmp 25), (.tmp 26)] (some 27) true), (.op .load1 [(.tmp 27)] (some 28) true), (.pc (.const (.fn 116 [])) [(.tmp 28), (.const (.int .i64 0)), (.const (.int .i64 16))] (some 29) true), (.op .not [(.tmp 29)] (some 30) true), (.op .mv [(.tmp 30)] (some 31) true), (.grp 31 false [(.op (.faddr 0) [(.tmp 1)] (some 32) true), (.op .load1 [(.tmp 32)] (some 33) true), (.op (.bin .eql) [(.tmp 33), (.const (.int .i64 0))] (some 34) true), (.op .mv [(.tmp 34)] (some 35) true), (.grp 35 true [(.op (.faddr 2) [(.tmp 1)] (some 36) true), (.op .load1 [(.tmp 36)] (some 37) true), (.op .mv [(.tmp 3)] (some 38) true), (.op (.iaddr 1) [(.tmp 37), (.tmp 38)] (some 39) true), (.op .load1 [(.tmp 39)] (some 40) true), (.op (.bin .neq) [(.tmp 40), (.const (.int .i64 0))] (some 41) true)] 41 42 true)] 42 43 true)] false) (.cond (.tmp 43) (.seq (.region [(.op .mv [(.const (.bool false))] (some 2) true)] false) .ret) .skip))) (.region [(.op .mv [(.tmp 3)] (some 22) true), (.op (.bin .add) [(.tmp 22), (.const (.int .i64 1))] (some 23) true), (.op .mv [(.tmp 23)] (some 3) true)] false)))
-- spec.InodeOk
def F220 : EF := ⟨(.seq (.region [(.op (.box 3) [(.tmp 0)] (some 1) true), (.op .mv [(.const (.bool false))] (some 2) true)] false) (.seq (.seq (.region [(.op (.faddr 0) [(.tmp 1)] (some 4) true), (.op .load1 [(.tmp 4)] (some 5) true), (.pc (.const (.fn 116 [])) [(.tmp 5), (.const (.int .i64 0)), (.const (.int .i64 2))] (some 6) true), (.op .not [(.tmp 6)] (some 7) true), (.op .mv [(.tmp 7)] (some 8) true), (.grp 8 false [(.op (.faddr 1) [(.tmp 1)] (some 9) true), (.op .load1 [(.tmp 9)] (some 10) true), (.pc (.const (.fn 116 [])) [(.tmp 10), (.const (.int .i64 0)), (.const (.int .i64 200))] (some 11) true), (.op .not [(.tmp 11)] (some 12) true)] 12 13 true), (.op .mv [(.tmp 13)] (some 14) true), (.grp 14 false [(.op (.faddr 2) [(.tmp 1)] (some 15) true), (.op .load1 [(.tmp 15)] (some 16) true), (.op .len [(.tmp 16)] (some 17) true), (.op (.bin .neq) [(.tmp 17), (.const (.int .i64 2))] (some 18) true)] 18 19 true)] false) (.cond (.tmp 19) (.seq (.region [(.op .mv [(.const (.bool false))] (some 2) true)] false) .ret) .skip)) (.seq (.seq (.region [(.op .mv [(.const (.int .i64 0))] (some 3) true)] false) (.block 0 (.loop H220_4 L220_4))) (.seq (.region [(.op (.faddr 0) [(.tmp 1)] (some 44) true), (.op .load1 [(.tmp 44)] (some 45) true), (.op (.bin .neq) [(.tmp 45), (.const (.int .i64 0))] (some 46) true), (.op .mv [(.tmp 46)] (some 47) true), (.grp 47 false [(.op (.faddr 1) [(.tmp 1)] (some 48) true), (.op .load1 [(.tmp 48)] (some 49) true), (.op (.bin .eql) [(.tmp 49), (.const (.int .i64 0))] (some 50) true)] 50 51 true), (.op .mv [(.tmp 51)] (some 2) true)] false) .ret)))), [(.tmp 2)], 52, .one, none⟩
theorem t220 : T 220 = some F220 := tab Try.func220 (by kernel_rfl) rfl
def H221_13 : List Vw := [.tidy [1, 3, 4, 5] [(1, none), (3, none), (4, none), (5, none)]]
theorem h221_13 (b : Nat) (s : St) : vwL b H221_13 s = vwL b [.tidy [1, 3, 4, 5] [(1, none), (3, none), (4, none), (5, none)]] s := rfl
def L221_13 : EC := (.seq (.seq (.region [(.op .mv [(.tmp 5)] (some 55) true), (.op .mv [(.tmp 3)] (some 56) true), (.op (.bin .lss) [(.tmp 55), (.tmp 56)] (some 57) true)] false) (.cond (.tmp 57) .skip (.exit 2))) (.seq (.block 3 (.seq (.region [(.op (.faddr 1) [(.tmp 1)] (some 60) false), (.op .load1 [(.tmp 60)] (some 61) false), (.op .mv [(.tmp 5)] (some 62) false), (.op (.iaddr 2) [(.tmp 61), (.tmp 62)] (some 63) false), (.op (.faddr 0) [(.tmp 63)] (some 64) false), (.op .load1 [(.tmp 64)] (some 65) false), (.op (.faddr 0) [(.tmp 4)] (some 66) false), (.op .load1 [(.tmp 66)] (some 67) false), (.op (.bin .eql) [(.tmp 65), (.tmp 67)] (some 68) true)] true) (.cond (.tmp 68) (.seq (.region [(.op .mv [(.const (.bool false))] (some 2) true)] false) .ret) .skip))) (.region [(.op .mv [(.tmp 5)] (some 58) true), (.op (.bin .add) [(.tmp 58), (.const (.int .i64 1))] (some 59) true), (.op .mv [(.tmp 59)] (some 5) true)] false)))
def H221_6 : List Vw := [.tidy [1, 3] [(1, none), (3, none)]]
theorem h221_6 (b : Nat) (s : St) : vwL b H221_6 s = vwL b [.tidy [1, 3] [(1, none), (3, none)]] s := rfl
def L221_6 : EC := (.seq (.seq (.region [(.op .mv [(.tmp 3)] (some 28) true), (.op (.bin .lss) [(.tmp 28), (.const (.int .i64 4))] (some 29) true)] false) (.cond (.tmp 29) .skip (.exit 0))) (.seq (.block 1 (.seq (.region [(.op (.faddr 1) [(.tmp 1)] (some 32) true), (.op .load1 [(.tmp 32)] (some 33) true), (.op .mv [(.tmp 3)] (some 34) true), (.op (.iaddr 2) [(.tmp 33), (.tmp 34)] (some 35) true), (.op (.loadN 2) [(.tmp 35)] (some 36) true), (.op (.alloc (.agg [(.str ⟨#[]⟩), (.int .i64 0)])) [] (some 4) true), (.op (.storeN 2) [(.tmp 4), (.tmp 36)] none true)] false) (.seq (.seq (.region [(.op (.faddr 0) [(.tmp 4)] (some 37) true), (.op .load1 [(.tmp 37)] (some 38) true), (.op (.bin .eql) [(.tmp 38), (.const (.str ⟨#[]⟩))] (some 39) true), (.op .mv [(.tmp 39)] (some 40) true), (.grp 40 true [(.op (.faddr 1) [(.tmp 4)] (some 41) true), (.op .load1 [(.tmp 41)] (some 42) true), (.op (.bin .eql) [(.tmp 42), (.const (.int .i64 0))] (some 43) true)] 43 44 true)] false) (.cond (.tmp 44) (.exit 1) .skip)) (.seq (.seq (.region [(.op (.faddr 0) [(.tmp 4)] (some 45) true), (.op .load1 [(.tmp 45)] (some 46) true), (.pc (.const (.fn 222 [])) [(.tmp 46)] (some 47) true), (.op .not [(.tmp 47)] (some 48) true), (.op .mv [(.tmp 48)] (some 49) true), (.grp 49 false [(.op (.faddr 1) [(.tmp 4)] (some 50) true), (.op .load1 [(.tmp 50)] (some 51) true), (.pc (.const (.fn 116 [])) [(.tmp 51), (.const (.int .i64 1)), (.const (.int .i64 8))] (some 52) true), (.op .not [(.tmp 52)] (some 53) true)] 53 54 true)] false) (.cond (.tmp 54) (.seq (.region [(.op .mv [(.const (.bool false))] (some 2) true)] false) .ret) .skip)) (.seq (.region [(.op .mv [(.const (.int .i64 0))] (some 5) true)] false) (.block 2 (.loop H221_13 L221_13))))))) (.region [(.op .mv [(.tmp 3)] (some 30) true), (.op (.bin .add) [(.tmp 30), (.const (.int .i64 1))] (some 31) true), (.op .mv [(.tmp 31)] (some 3) true)] false)))
-- spec.BlockOk
def F221 : EF := ⟨(.seq (.region [(.op (.box 3) [(.tmp 0)] (some 1) true), (.op .mv [(.const (.bool false))] (some 2) true)] false) (.seq (.seq (.region [(.op (.faddr 0) [(.tmp 1)] (some 6) true), (.op .load1 [(.tmp 6)] (some 7) true), (.op .not [(.tmp 7)] (some 8) true)] false) (.cond (.tmp 8) (.seq (.region [(.op (.faddr 1) [(.tmp 1)] (some 9) true), (.op .load1 [(.tmp 9)] (some 10) true), (.op .len [(.tmp 10)] (some 11) true), (.op (.bin .eql) [(.tmp 11), (.const (.int .i64 0))] (some 12) true), (.op .mv [(.tmp 12)] (some 13) true), (.grp 13 true [(.op (.faddr 2) [(.tmp 1)] (some 14) true), (.op .load1 [(.tmp 14)] (some 15) true), (.op .lenStr [(.tmp 15)] (some 16) true), (.op (.bin .leq) [(.tmp 16), (.const (.int .i64 16))] (some 17) true)] 17 18 true), (.op .mv [(.tmp 18)] (some 2) true)] false) .ret) .skip)) (.seq (.seq (.region [(.op (.faddr 1) [(.tmp 1)] (some 19) true), (.op .load1 [(.tmp 19)] (some 20) true), (.op .len [(.tmp 20)] (some 21) true), (.op (.bin .neq) [(.tmp 21), (.const (.int .i64 4))] (some 22) true), (.op .mv [(.tmp 22)] (some 23) true), (.grp 23 false [(.op (.faddr 2) [(.tmp 1)] (some 24) true), (.op .load1 [(.tmp 24)] (some 25) true), (.op (.bin .neq) [(.tmp 25), (.const (.str ⟨#[]⟩))] (some 26) true)] 26 27 true)] false) (.cond (.tmp 27) (.seq (.region [(.op .mv [(.const (.bool false))] (some 2) true)] false) .ret) .skip)) (.seq (.seq (.region [(.op .mv [(.const (.int .i64 0))] (some 3) true)] false) (.block 0 (.loop H221_6 L221_6))) (.seq (.region [(.op .mv [(.const (.bool true))] (some 2) true)] false) .ret))))), [(.tmp 2)], 69, .one, none⟩
theorem t221 : T 221 = some F221 := tab Try.func221 (by kernel_rfl) rfl
def H222_2 : List Vw := [.tidy [0, 3] [(0, none), (3, none)]]
theorem h222_2 (b : Nat) (s : St) : vwL b H222_2 s = vwL b [.tidy [0, 3] [(0, none), (3, none)]] s := rfl
def L222_2 : EC := (.seq (.seq (.region [(.op .mv [(.tmp 3)] (some 4) true), (.op .mv [(.tmp 0)] (some 5) true), (.op .lenStr [(.tmp 5)] (some 6) true), (.op (.bin .lss) [(.tmp 4), (.tmp 6)] (some 7) true)] false) (.cond (.tmp 7) .skip (.exit 0))) (.seq (.block 1 (.seq (.region [(.op .mv [(.tmp 0)] (some 10) true), (.op .mv [(.tmp 3)] (some 11) true), (.op .idxStr [(.tmp 10), (.tmp 11)] (some 12) true), (.op (.bin .lss) [(.tmp 12), (.const (.int .u8 97))] (some 13) true), (.op .mv [(.tmp 13)] (some 14) true), (.grp 14 false [(.op .mv [(.tmp 0)] (some 15) true), (.op .mv [(.tmp 3)] (some 16) true), (.op .idxStr [(.tmp 15), (.tmp 16)] (some 17) true), (.op (.bin .gtr) [(.tmp 17), (.const (.int .u8 122))] (some 18) true)] 18 19 true), (.op .mv [(.tmp 19)] (some 20) true), (.grp 20 true [(.op .mv [(.tmp 0)] (some 21) true), (.op .mv [(.tmp 3)] (some 22) true), (.op .idxStr [(.tmp 21), (.tmp 22)] (some 23) true), (.op (.bin .lss) [(.tmp 23), (.const (.int .u8 48))] (some 24) true), (.op .mv [(.tmp 24)] (some 25) true), (.grp 25 false [(.op .mv [(.tmp 0)] (some 26) true), (.op .mv [(.tmp 3)] (some 27) true), (.op .idxStr [(.tmp 26), (.tmp 27)] (some 28) true), (.op (.bin .gtr) [(.tmp 28), (.const (.int .u8 57))] (some 29) true)] 29 30 true)] 30 31 true)] false) (.cond (.tmp 31) (.seq (.region [(.op .mv [(.const (.bool false))] (some 2) true)] false) .ret) .skip))) (.region [(.op .mv [(.tmp 3)] (some 8) true), (.op (.bin .add) [(.tmp 8), (.const (.int .i64 1))] (some 9) true), (.op .mv [(.tmp 9)] (some 3) true)] false)))
-- spec.NameOk
def F222 : EF := ⟨(.seq (.region [(.op .mv [(.const (.bool false))] (some 2) true)] false) (.seq (.seq (.region [(.op .mv [(.const (.int .i64 0))] (some 3) true)] false) (.block 0 (.loop H222_2 L222_2))) (.seq (.region [(.op .mv [(.tmp 0)] (some 32) true), (.op .lenStr [(.tmp 32)] (some 33) true), (.pc (.const (.fn 116 [])) [(.tmp 33), (.const (.int .i64 1)), (.const (.int .i64 6))] (some 34) true), (.op .mv [(.tmp 34)] (some 2) true)] false) .ret))), [(.tmp 2)], 35, .one, none⟩
theorem t222 : T 222 = some F222 := tab Try.func222 (by kernel_rfl) rfl
def H223_2 : List Vw := [.tidy [1, 6, 7, 8] [(1, none), (6, none), (7, none), (8, none)]]
theorem h223_2 (b : Nat) (s : St) : vwL b H223_2 s = vwL b [.tidy [1, 6, 7, 8] [(1, none), (6, none), (7, none), (8, none)]] s := rfl
def L223_2 : EC := (.seq (.region [(.op (.bin .lss) [(.tmp 8), (.tmp 7)] (some 9) true)] false) (.seq (.cond (.tmp 9) .skip (.exit 0)) (.seq (.block 1 (.seq (.region [(.op (.iaddr 1) [(.tmp 6), (.tmp 8)] (some 10) true), (.op .load1 [(.tmp 10)] (some 11) true), (.op .mv [(.tmp 11)] (some 4) true)] false) (.seq (.region [(.op .mv [(.tmp 4)] (some 12) true), (.pc (.const (.fn 117 [])) [(.tmp 12), (.const (.int .i64 0)), (.const (.int .i64 16))] (some 13) true), (.op .not [(.tmp 13)] (some 14) true), (.op .mv [(.tmp 14)] (some 15) true), (.grp 15 false [(.op .mv [(.tmp 4)] (some 16) true), (.op (.bin .neq) [(.tmp 16), (.const (.int .i64 0))] (some 17) true), (.op .mv [(.tmp 17)] (some 18) true), (.grp 18 true [(.op (.faddr 0) [(.tmp 1)] (some 19) true), (.op .load1 [(.tmp 19)] (some 20) true), (.op (.bin .eql) [(.tmp 20), (.const (.int .i64 0))] (some 21) true)] 21 22 true)] 22 23 true)] false) (.cond (.tmp 23) (.seq (.region [(.op .mv [(.const (.bool false))] (some 2) true)] false) .ret) .skip)))) (.region [(.op (.bin .add) [(.tmp 8), (.const (.int .i64 1))] (some 24) true), (.op .mv [(.tmp 24)] (some 8) true)] false))))
-- impl.InodeOk
def F223 : EF := ⟨(.seq (.region [(.op (.box 3) [(.tmp 0)] (some 1) true), (.op .mv [(.const (.bool false))] (some 2) true)] false) (.seq (.seq (.region [(.op (.faddr 2) [(.tmp 1)] (some 5) true), (.op .load1 [(.tmp 5)] (some 6) true), (.op .len [(.tmp 6)] (some 7) true), (.op .mv [(.const (.int .i64 0))] (some 8) true)] false) (.block 0 (.loop H223_2 L223_2))) (.seq (.region [(.op (.faddr 0) [(.tmp 1)] (some 25) true), (.op .load1 [(.tmp 25)] (some 26) true), (.pc (.const (.fn 117 [])) [(.tmp 26), (.const (.int .i64 0)), (.const (.int .i64 2))] (some 27) true), (.op .mv [(.tmp 27)] (some 28) true), (.grp 28 true [(.op (.faddr 1) [(.tmp 1)] (some 29) true), (.op .load1 [(.tmp 29)] (some 30) true), (.pc (.const (.fn 117 [])) [(.tmp 30), (.const (.int .i64 0)), (.const (.int .i64 200))] (some 31) true)] 31 32 true), (.op .mv [(.tmp 32)] (some 33) true), (.grp 33 true [(.op (.faddr 2) [(.tmp 1)] (some 34) true), (.op .load1 [(.tmp 34)] (some 35) true), (.op .len [(.tmp 35)] (some 36) true), (.op (.bin .eql) [(.tmp 36), (.const (.int .i64 2))] (some 37) true)] 37 38 true), (.op .mv [(.tmp 38)] (some 39) true), (.grp 39 true [(.op (.faddr 0) [(.tmp 1)] (some 40) true), (.op .load1 [(.tmp 40)] (some 41) true), (.op (.bin .neq) [(.tmp 41), (.const (.int .i64 0))] (some 42) true), (.op .mv [(.tmp 42)] (some 43) true), (.grp 43 false [(.op (.faddr 1) [(.tmp 1)] (some 44) true), (.op .load1 [(.tmp 44)] (some 45) true), (.op (.bin .eql) [(.tmp 45), (.const (.int .i64 0))] (some 46) true)] 46 47 true)] 47 48 true), (.op .mv [(.tmp 48)] (some 2) true)] false) .ret))), [(.tmp 2)], 49, .one, none⟩
theorem t223 : T 223 = some F223 := tab Try.func223 (by kernel_rfl) rfl
def H224_4 : List Vw := [.tidy [1, 19, 20, 21] [(1, none), (19, none), (20, none), (21, none)]]
theorem h224_4 (b : Nat) (s : St) : vwL b H224_4 s = vwL b [.tidy [1, 19, 20, 21] [(1, none), (19, none), (20, none), (21, none)]] s := rfl
def L224_4 : EC := (.seq (.region [(.op (.bin .lss) [(.tmp 21), (.tmp 20)] (some 22) true)] false) (.seq (.cond (.tmp 22) .skip (.exit 0)) (.seq (.block 1 (.seq (.region [(.op .mv [(.tmp 21)] (some 23) true), (.op (.iaddr 2) [(.tmp 19), (.tmp 21)] (some 24) true), (.op (.loadN 2) [(.tmp 24)] (some 25) true), (.op (.alloc (.agg [(.str ⟨#[]⟩), (.int .i64 0)])) [] (some 4) true), (.op .mv [(.tmp 23)] (some 3) true), (.op (.storeN 2) [(.tmp 4), (.tmp 25)] none true)] false) (.seq (.seq (.region [(.op (.loadN 2) [(.tmp 4)] (some 26) true), (.op (.build [(.str ⟨#[]⟩), (.int .i64 0)] []) [] (some 27) true), (.op (.eqs false [2, 1]) [(.tmp 26), (.tmp 27)] (some 28) true)] false) (.cond (.tmp 28) (.exit 1) .skip)) (.seq (.region [(.op (.faddr 0) [(.tmp 4)] (some 29) true), (.op .load1 [(.tmp 29)] (some 30) true), (.pc (.const (.fn 230 [])) [(.tmp 30)] (some 31) true), (.op .not [(.tmp 31)] (some 32) true), (.op .mv [(.tmp 32)] (some 33) true), (.grp 33 false [(.op (.faddr 1) [(.tmp 4)] (some 34) true), (.op .load1 [(.tmp 34)] (some 35) true), (.pc (.const (.fn 227 [])) [(.tmp 35)] (some 36) true), (.op .not [(.tmp 36)] (some 37) true)] 37 38 true), (.op .mv [(.tmp 38)] (some 39) true), (.grp 39 false [(.op (.loadN 3) [(.tmp 1)] (some 40) true), (.op (.faddr 0) [(.tmp 4)] (some 41) true), (.op .load1 [(.tmp 41)] (some 42) true), (.pc (.const (.fn 265 [])) [(.tmp 40), (.tmp 42)] (some 43) true), (.op .mv [(.tmp 3)] (some 44) true), (.op (.bin .neq) [(.tmp 43), (.tmp 44)] (some 45) true)] 45 46 true)] false) (.cond (.tmp 46) (.seq (.region [(.op .mv [(.const (.bool false))] (some 2) true)] false) .ret) .skip))))) (.region [(.op (.bin .add) [(.tmp 21), (.const (.int .i64 1))] (some 47) true), (.op .mv [(.tmp 47)] (some 21) true)] false))))
-- impl.BlockOk
def F224 : EF := ⟨(.seq (.region [(.op (.box 3) [(.tmp 0)] (some 1) true), (.op .mv [(.const (.bool false))] (some 2) true)] false) (.seq (.seq (.region [(.op (.faddr 0) [(.tmp 1)] (some 5) true), (.op .load1 [(.tmp 5)] (some 6) true), (.op .not [(.tmp 6)] (some 7) true)] false) (.cond (.tmp 7) (.seq (.region [(.op (.faddr 1) [(.tmp 1)] (some 8) true), (.op .load1 [(.tmp 8)] (some 9) true), (.op .len [(.tmp 9)] (some 10) true), (.op (.bin .eql) [(.tmp 10), (.const (.int .i64 0))] (some 11) true), (.op .mv [(.tmp 11)] (some 12) true), (.grp 12 true [(.op (.faddr 2) [(.tmp 1)] (some 13) true), (.op .load1 [(.tmp 13)] (some 14) true), (.op .lenStr [(.tmp 14)] (some 15) true), (.op (.bin .leq) [(.tmp 15), (.const (.int .i64 16))] (some 16) true)] 16 17 true), (.op .mv [(.tmp 17)] (some 2) true)] false) .ret) .skip)) (.seq (.seq (.region [(.op (.faddr 1) [(.tmp 1)] (some 18) true), (.op .load1 [(.tmp 18)] (some 19) true), (.op .len [(.tmp 19)] (some 20) true), (.op .mv [(.const (.int .i64 0))] (some 21) true)] false) (.block 0 (.loop H224_4 L224_4))) (.seq (.region [(.op (.faddr 1) [(.tmp 1)] (some 48) true), (.op .load1 [(.tmp 48)] (some 49) true), (.op .len [(.tmp 49)] (some 50) true), (.op (.bin .eql) [(.tmp 50), (.const (.int .i64 4))] (some 51) true), (.op .mv [(.tmp 51)] (some 52) true), (.grp 52 true [(.op (.faddr 2) [(.tmp 1)] (some 53) true), (.op .load1 [(.tmp 53)] (some 54) true), (.op (.bin .eql) [(.tmp 54), (.const (.str ⟨#[]⟩))] (some 55) true)] 55 56 true), (.op .mv [(.tmp 56)] (some 2) true)] false) .ret)))), [(.tmp 2)], 57, .one, none⟩
theorem t224 : T 224 = some F224 := tab Try.func224 (by kernel_rfl) rfl
-- impl.BitsOk
def F225 : EF := ⟨(.seq (.region [(.op (.box 2) [(.tmp 0)] (some 1) true), (.op .mv [(.const (.bool false))] (some 2) true)] false) (.seq (.region [(.op (.faddr 0) [(.tmp 1)] (some 3) true), (.op .load1 [(.tmp 3)] (some 4) true), (.op .len [(.tmp 4)] (some 5) true), (.op (.bin .eql) [(.tmp 5), (.const (.int .i64 16))] (some 6) true), (.op .mv [(.tmp 6)] (some 7) true), (.grp 7 true [(.op (.faddr 1) [(.tmp 1)] (some 8) true), (.op .load1 [(.tmp 8)] (some 9) true), (.op .len [(.tmp 9)] (some 10) true), (.op (.bin .eql) [(.tmp 10), (.const (.int .i64 8))] (some 11) true)] 11 12 true), (.op .mv [(.tmp 12)] (some 2) true)] false) .ret)), [(.tmp 2)], 13, .one, none⟩
theorem t225 : T 225 = some F225 := tab Try.func225 (by kernel_rfl) rfl
-- impl.isBlock
-- impl.isIno
def F227 : EF := ⟨(.seq (.region [(.op .mv [(.const (.bool false))] (some 2) true)] false) (.seq (.region [(.op .mv [(.tmp 0)] (some 3) true), (.pc (.const (.fn 117 [])) [(.tmp 3), (.const (.int .i64 1)), (.const (.int .i64 8))] (some 4) true), (.op .mv [(.tmp 4)] (some 2) true)] false) .ret)), [(.tmp 2)], 5, .one, none⟩
theorem t227 : T 227 = some F227 := tab Try.func227 (by kernel_rfl) rfl
def H230_2 : List Vw := [.tidy [0, 5, 6] [(0, none), (5, none), (6, none)]]
theorem h230_2 (b : Nat) (s : St) : vwL b H230_2 s = vwL b [.tidy [0, 5, 6] [(0, none), (5, none), (6, none)]] s := rfl
def L230_2 : EC := (.seq (.region [(.op (.bin .lss) [(.tmp 6), (.tmp 5)] (some 7) true)] false) (.seq (.cond (.tmp 7) .skip (.exit 0)) (.seq (.block 1 (.seq (.region [(.op .mv [(.tmp 6)] (some 8) true), (.op .mv [(.tmp 8)] (some 3) true)] false) (.seq (.region [(.op .mv [(.tmp 0)] (some 9) true), (.op .mv [(.tmp 3)] (some 10) true), (.op .idxStr [(.tmp 9), (.tmp 10)] (some 11) true), (.op (.conv .i64) [(.tmp 11)] (some 12) true), (.pc (.const (.fn 117 [])) [(.tmp 12), (.const (.int .i64 97)), (.const (.int .i64 122))] (some 13) true), (.op .not [(.tmp 13)] (some 14) true), (.op .mv [(.tmp 14)] (some 15) true), (.grp 15 true [(.op .mv [(.tmp 0)] (some 16) true), (.op .mv [(.tmp 3)] (some 17) true), (.op .idxStr [(.tmp 16), (.tmp 17)] (some 18) true), (.op (.conv .i64) [(.tmp 18)] (some 19) true), (.pc (.const (.fn 117 [])) [(.tmp 19), (.const (.int .i64 48)), (.const (.int .i64 57))] (some 20) true), (.op .not [(.tmp 20)] (some 21) true)] 21 22 true)] false) (.cond (.tmp 22) (.seq (.region [(.op .mv [(.const (.bool false))] (some 2) true)] false) .ret) .skip)))) (.region [(.op (.bin .add) [(.tmp 6), (.const (.int .i64 1))] (some 23) true), (.op .mv [(.tmp 23)] (some 6) true)] false))))
-- impl.NameOk
def F230 : EF := ⟨(.seq (.region [(.op .mv [(.const (.bool false))] (some 2) true)] false) (.seq (.seq (.region [(.op .mv [(.tmp 0)] (some 4) true), (.op .lenStr [(.tmp 4)] (some 5) true), (.op .mv [(.const (.int .i64 0))] (some 6) true)] false) (.block 0 (.loop H230_2 L230_2))) (.seq (.region [(.op .mv [(.tmp 0)] (some 24) true), (.op .lenStr [(.tmp 24)] (some 25) true), (.pc (.const (.fn 117 [])) [(.tmp 25), (.const (.int .i64 1)), (.const (.int .i64 6))] (some 26) true), (.op .mv [(.tmp 26)] (some 2) true)] false) .ret))), [(.tmp 2)], 27, .one, none⟩
theorem t230 : T 230 = some F230 := tab Try.func230 (by kernel_rfl) rfl
-- impl.SlotOf
def F265 : EF := ⟨(.seq (.region [(.op (.box 3) [(.tmp 0)] (some 2) true), (.op (.box 1) [(.tmp 1)] (some 3) true), (.op .mv [(.const (.int .i64 0))] (some 4) true)] false) (.seq (.seq (.region [(.op .load1 [(.tmp 3)] (some 5) true), (.op (.bin .eql) [(.tmp 5), (.const (.str ⟨#[]⟩))] (some 6) true)] false) (.cond (.tmp 6) (.seq (.region [(.op .mv [(.const (.int .i64 (-1)))] (some 4) true)] false) .ret) .skip)) (.seq (.region [(.op (.faddr 1) [(.tmp 2)] (some 7) true), (.op .load1 [(.tmp 7)] (some 8) true), (.op (.mkfn 295) [(.tmp 3)] (some 9) true), (.pc (.const (.fn 294 [])) [(.tmp 8), (.tmp 9)] (some 10) true), (.op .mv [(.tmp 10)] (some 4) true)] false) .ret))), [(.tmp 4)], 11, .one, none⟩
theorem t265 : T 265 = some F265 := tab Try.func265 (by kernel_rfl) rfl
def H294_2 : List Vw := [.tidy [0, 1, 7, 8] [(0, none), (1, none), (7, none), (8, none)]]
theorem h294_2 (b : Nat) (s : St) : vwL b H294_2 s = vwL b [.tidy [0, 1, 7, 8] [(0, none), (1, none), (7, none), (8, none)]] s := rfl
def L294_2 : EC := (.seq (.region [(.op (.bin .lss) [(.tmp 8), (.tmp 7)] (some 9) true)] false) (.seq (.cond (.tmp 9) .skip (.exit 0)) (.seq (.block 1 (.seq (.region [(.op .mv [(.tmp 8)] (some 10) true), (.op .mv [(.tmp 10)] (some 5) true)] false) (.seq (.region [(.op .mv [(.tmp 1)] (some 11) true), (.op .mv [(.tmp 0)] (some 12) true), (.op .mv [(.tmp 5)] (some 13) true), (.op (.iaddr 2) [(.tmp 12), (.tmp 13)] (some 14) true), (.op (.loadN 2) [(.tmp 14)] (some 15) true), (.pc (.tmp 11) [(.tmp 15)] (some 16) true)] false) (.cond (.tmp 16) (.seq (.region [(.op .mv [(.tmp 5)] (some 17) true), (.op .mv [(.tmp 17)] (some 4) true)] false) .ret) .skip)))) (.region [(.op (.bin .add) [(.tmp 8), (.const (.int .i64 1))] (some 18) true), (.op .mv [(.tmp 18)] (some 8) true)] false))))
-- slices.IndexFunc[[]impl.Slot,impl.Slot]
def F294 : EF := ⟨(.seq (.region [(.op .mv [(.const (.int .i64 0))] (some 4) true)] false) (.seq (.seq (.region [(.op .mv [(.tmp 0)] (some 6) true), (.op .len [(.tmp 6)] (some 7) true), (.op .mv [(.const (.int .i64 0))] (some 8) true)] false) (.block 0 (.loop H294_2 L294_2))) (.seq (.region [(.op .mv [(.const (.int .i64 (-1)))] (some 4) true)] false) .ret))), [(.tmp 4)], 19, .one, none⟩
theorem t294 : T 294 = some F294 := tab Try.func294 (by kernel_rfl) rfl
-- impl.SlotOf$1
def F295 : EF := ⟨(.seq (.region [(.op (.box 2) [(.tmp 0)] (some 2) true), (.op .mv [(.const (.bool false))] (some 3) true)] false) (.seq (.region [(.op (.faddr 0) [(.tmp 2)] (some 4) true), (.op .load1 [(.tmp 4)] (some 5) true), (.op .load1 [(.tmp 1)] (some 6) true), (.op (.bin .eql) [(.tmp 5), (.tmp 6)] (some 7) true), (.op .mv [(.tmp 7)] (some 3) true)] false) .ret)), [(.tmp 3)], 8, .one, none⟩
theorem t295 : T 295 = some F295 := tab Try.func295 (by kernel_rfl) rfl
def H153_4 : List Vw := [.tidy [1, 3] [(1, none), (3, none)]]
theorem h153_4 (b : Nat) (s : St) : vwL b H153_4 s = vwL b [.tidy [1, 3] [(1, none), (3, none)]] s := rfl
def L153_4 : EC := (.seq (.seq (.region [(.op .mv [(.tmp 3)] (some 21) true), (.op (.faddr 2) [(.tmp 1)] (some 22) true), (.op .load1 [(.tmp 22)] (some 23) true), (.op .len [(.tmp 23)] (some 24) true), (.op (.bin .lss) [(.tmp 21), (.tmp 24)] (some 25) true)] false) (.cond (.tmp 25) .skip (.exit 0))) (.seq (.block 1 (.seq (.region [(.op (.faddr 2) [(.tmp 1)] (some 28) true), (.op .load1 [(.tmp 28)] (some 29) true), (.op .mv [(.tmp 3)] (some 30) true), (.op (.iaddr 3) [(.tmp 29), (.tmp 30)] (some 31) true), (.op (.loadN 3) [(.tmp 31)] (some 32) true), (.pc (.const (.fn 220 [])) [(.tmp 32)] (some 33) true), (.op .not [(.tmp 33)] (some 34) true)] false) (.cond (.tmp 34) (.seq (.region [(.op .mv [(.const (.bool false))] (some 2) true)] false) .ret) .skip))) (.region [(.op .mv [(.tmp 3)] (some 26) true), (.op (.bin .add) [(.tmp 26), (.const (.int .i64 1))] (some 27) true), (.op .mv [(.tmp 27)] (some 3) true)] false)))
def H153_10 : List Vw := [.tidy [1, 4] [(1, none), (4, none)]]
theorem h153_10 (b : Nat) (s : St) : vwL b H153_10 s = vwL b [.tidy [1, 4] [(1, none), (4, none)]] s := rfl
def L153_10 : EC := (.seq (.seq (.region [(.op .mv [(.tmp 4)] (some 35) true), (.op (.faddr 3) [(.tmp 1)] (some 36) true), (.op .load1 [(.tmp 36)] (some 37) true), (.op .len [(.tmp 37)] (some 38) true), (.op (.bin .lss) [(.tmp 35), (.tmp 38)] (some 39) true)] false) (.cond (.tmp 39) .skip (.exit 2))) (.seq (.block 3 (.seq (.region [(.op (.faddr 3) [(.tmp 1)] (some 42) true), (.op .load1 [(.tmp 42)] (some 43) true), (.op .mv [(.tmp 4)] (some 44) true), (.op (.iaddr 3) [(.tmp 43), (.tmp 44)] (some 45) true), (.op (.loadN 3) [(.tmp 45)] (some 46) true), (.pc (.const (.fn 221 [])) [(.tmp 46)] (some 47) true), (.op .not [(.tmp 47)] (some 48) true)] false) (.cond (.tmp 48) (.seq (.region [(.op .mv [(.const (.bool false))] (some 2) true)] false) .ret) .skip))) (.region [(.op .mv [(.tmp 4)] (some 40) true), (.op (.bin .add) [(.tmp 40), (.const (.int .i64 1))] (some 41) true), (.op .mv [(.tmp 41)] (some 4) true)] false)))
-- spec.DiskOk
def F153 : EF := ⟨(.seq (.region [(.op (.box 4) [(.tmp 0)] (some 1) true), (.op .mv [(.const (.bool false))] (some 2) true)] false) (.seq (.seq (.region [(.op (.faddr 0) [(.tmp 1)] (some 5) true), (.op (.loadN 2) [(.tmp 5)] (some 6) true), (.pc (.const (.fn 219 [])) [(.tmp 6)] (some 7) true), (.op .not [(.tmp 7)] (some 8) true), (.op .mv [(.tmp 8)] (some 9) true), (.grp 9 false [(.op (.faddr 2) [(.tmp 1)] (some 10) true), (.op .load1 [(.tmp 10)] (some 11) true), (.op .len [(.tmp 11)] (some 12) true), (.op (.bin .neq) [(.tmp 12), (.const (.int .i64 8))] (some 13) true)] 13 14 true), (.op .mv [(.tmp 14)] (some 15) true), (.grp 15 false [(.op (.faddr 3) [(.tmp 1)] (some 16) true), (.op .load1 [(.tmp 16)] (some 17) true), (.op .len [(.tmp 17)] (some 18) true), (.op (.bin .neq) [(.tmp 18), (.const (.int .i64 16))] (some 19) true)] 19 20 true)] false) (.cond (.tmp 20) (.seq (.region [(.op .mv [(.const (.bool false))] (some 2) true)] false) .ret) .skip)) (.seq (.seq (.region [(.op .mv [(.const (.int .i64 0))] (some 3) true)] false) (.block 0 (.loop H153_4 L153_4))) (.seq (.seq (.region [(.op .mv [(.const (.int .i64 0))] (some 4) true)] false) (.block 2 (.loop H153_10 L153_10))) (.seq (.region [(.op .mv [(.const (.bool true))] (some 2) true)] false) .ret))))), [(.tmp 2)], 49, .one, none⟩
theorem t153 : T 153 = some F153 := tab Try.func153 (by kernel_rfl) rfl
def H155_2 : List Vw := [.tidy [1, 8, 9, 10] [(1, none), (8, none), (9, none), (10, none)]]
theorem h155_2 (b : Nat) (s : St) : vwL b H155_2 s = vwL b [.tidy [1, 8, 9, 10] [(1, none), (8, none), (9, none), (10, none)]] s := rfl
def L155_2 : EC := (.seq (.region [(.op (.bin .lss) [(.tmp 10), (.tmp 9)] (some 11) true)] false) (.seq (.cond (.tmp 11) .skip (.exit 0)) (.seq (.block 1 (.seq (.region [(.op (.iaddr 3) [(.tmp 8), (.tmp 10)] (some 12) true), (.op (.loadN 3) [(.tmp 12)] (some 13) true), (.op (.alloc (.agg [(.int .i64 0), (.int .i64 0), .nil])) [] (some 4) true), (.op (.storeN 3) [(.tmp 4), (.tmp 13)] none true)] false) (.seq (.region [(.op (.loadN 3) [(.tmp 4)] (some 14) true), (.pc (.const (.fn 223 [])) [(.tmp 14)] (some 15) true), (.op .not [(.tmp 15)] (some 16) true)] false) (.cond (.tmp 16) (.seq (.region [(.op .mv [(.const (.bool false))] (some 2) true)] false) .ret) .skip)))) (.region [(.op (.bin .add) [(.tmp 10), (.const (.int .i64 1))] (some 17) true), (.op .mv [(.tmp 17)] (some 10) true)] false))))
def H155_9 : List Vw := [.tidy [1, 19, 20, 21] [(1, none), (19, none), (20, none), (21, none)]]
theorem h155_9 (b : Nat) (s : St) : vwL b H155_9 s = vwL b [.tidy [1, 19, 20, 21] [(1, none), (19, none), (20, none), (21, none)]] s := rfl
def L155_9 : EC := (.seq (.region [(.op (.bin .lss) [(.tmp 21), (.tmp 20)] (some 22) true)] false) (.seq (.cond (.tmp 22) .skip (.exit 2)) (.seq (.block 3 (.seq (.region [(.op (.iaddr 3) [(.tmp 19), (.tmp 21)] (some 23) true), (.op (.loadN 3) [(.tmp 23)] (some 24) true), (.op (.alloc (.agg [(.bool false), .nil, (.str ⟨#[]⟩)])) [] (some 6) true), (.op (.storeN 3) [(.tmp 6), (.tmp 24)] none true)] false) (.seq (.region [(.op (.loadN 3) [(.tmp 6)] (some 25) true), (.pc (.const (.fn 224 [])) [(.tmp 25)] (some 26) true), (.op .not [(.tmp 26)] (some 27) true)] false) (.cond (.tmp 27) (.seq (.region [(.op .mv [(.const (.bool false))] (some 2) true)] false) .ret) .skip)))) (.region [(.op (.bin .add) [(.tmp 21), (.const (.int .i64 1))] (some 28) true), (.op .mv [(.tmp 28)] (some 21) true)] false))))
-- impl.DiskOk
def F155 : EF := ⟨(.seq (.region [(.op (.box 4) [(.tmp 0)] (some 1) true), (.op .mv [(.const (.bool false))] (some 2) true)] false) (.seq (.seq (.region [(.op (.faddr 2) [(.tmp 1)] (some 7) true), (.op .load1 [(.tmp 7)] (some 8) true), (.op .len [(.tmp 8)] (some 9) true), (.op .mv [(.const (.int .i64 0))] (some 10) true)] false) (.block 0 (.loop H155_2 L155_2))) (.seq (.seq (.region [(.op (.faddr 3) [(.tmp 1)] (some 18) true), (.op .load1 [(.tmp 18)] (some 19) true), (.op .len [(.tmp 19)] (some 20) true), (.op .mv [(.const (.int .i64 0))] (some 21) true)] false) (.block 2 (.loop H155_9 L155_9))) (.seq (.region [(.op (.faddr 0) [(.tmp 1)] (some 29) true), (.op (.loadN 2) [(.tmp 29)] (some 30) true), (.pc (.const (.fn 225 [])) [(.tmp 30)] (some 31) true), (.op .mv [(.tmp 31)] (some 32) true), (.grp 32 true [(.op (.faddr 2) [(.tmp 1)] (some 33) true), (.op .load1 [(.tmp 33)] (some 34) true), (.op .len [(.tmp 34)] (some 35) true), (.op (.bin .eql) [(.tmp 35), (.const (.int .i64 8))] (some 36) true)] 36 37 true), (.op .mv [(.tmp 37)] (some 38) true), (.grp 38 true [(.op (.faddr 3) [(.tmp 1)] (some 39) true), (.op .load1 [(.tmp 39)] (some 40) true), (.op .len [(.tmp 40)] (some 41) true), (.op (.bin .eql) [(.tmp 41), (.const (.int .i64 16))] (some 42) true)] 42 43 true), (.op .mv [(.tmp 43)] (some 2) true)] false) .ret)))), [(.tmp 2)], 44, .one, none⟩
theorem t155 : T 155 = some F155 := tab Try.func155 (by kernel_rfl) rfl
end Go.Proofs.Ytaaajjinpppgeaa

/- The code of some functions, as the evaluator reads it (printed by a program of ours), checked against the program. Own work; no condition. -/
set_option linter.unusedVariables false
set_option linter.unusedSimpArgs false
set_option linter.unusedSectionVars false
namespace Go.Proofs.Ytaaajjinpppgeaa
open Go Go.Abs
set_option maxRecDepth 100000
-- laws.FnExactImageInode
-- spec.ImageInode
-- impl.ImageInode
-- spec.l01In
def F116 : EF := ⟨(.seq (.region [(.op .mv [(.const (.bool false))] (some 6) true)] false) (.seq (.region [(.op .mv [(.tmp 0)] (some 7) true), (.op .mv [(.tmp 1)] (some 8) true), (.op (.bin .geq) [(.tmp 7), (.tmp 8)] (some 9) true), (.op .mv [(.tmp 9)] (some 10) true), (.grp 10 true [(.op .mv [(.tmp 0)] (some 11) true), (.op .mv [(.tmp 2)] (some 12) true), (.op (.bin .leq) [(.tmp 11), (.tmp 12)] (some 13) true)] 13 14 true), (.op .mv [(.tmp 14)] (some 6) true)] false) .ret)), [(.tmp 6)], 15, .one, none⟩
theorem t116 : T 116 = some F116 := tab Try.func116 (by kernel_rfl) rfl
-- impl.within
def F117 : EF := ⟨(.seq (.region [(.op .mv [(.const (.bool false))] (some 6) true)] false) (.seq (.region [(.op .mv [(.tmp 0)] (some 7) true), (.op .mv [(.tmp 1)] (some 8) true), (.op (.bin .geq) [(.tmp 7), (.tmp 8)] (some 9) true), (.op .mv [(.tmp 9)] (some 10) true), (.grp 10 true [(.op .mv [(.tmp 0)] (some 11) true), (.op .mv [(.tmp 2)] (some 12) true), (.op (.bin .leq) [(.tmp 11), (.tmp 12)] (some 13) true)] 13 14 true), (.op .mv [(.tmp 14)] (some 6) true)] false) .ret)), [(.tmp 6)], 15, .one, none⟩
theorem t117 : T 117 = some F117 := tab Try.func117 (by kernel_rfl) rfl
-- spec.InodeNew
def F141 : EF := ⟨(.seq (.region [(.op (.alloc (.agg [(.int .i64 0), (.int .i64 0), .nil])) [] (some 2) true)] false) (.seq (.region [(.op .mv [(.tmp 0)] (some 4) true), (.op (.mkslice 1 8 (.int .i64 0)) [(.const (.int .i64 2)), (.const (.int .i64 2))] (some 5) true), (.op (.build [(.int .i64 0), (.int .i64 0), .nil] [(0, 1), (1, 1), (2, 1)]) [(.tmp 4), (.const (.int .i64 1)), (.tmp 5)] (some 6) true), (.op (.alloc (.agg [(.int .i64 0), (.int .i64 0), .nil])) [] (some 3) true), (.op (.storeN 3) [(.tmp 3), (.tmp 6)] none true)] false) (.seq (.seq (.region [(.op .mv [(.tmp 0)] (some 7) true), (.op (.bin .eql) [(.tmp 7), (.const (.int .i64 0))] (some 8) true)] false) (.cond (.tmp 8) (.region [(.op (.faddr 1) [(.tmp 3)] (some 9) true), (.op .store1 [(.tmp 9), (.const (.int .i64 0))] none true)] false) .skip)) (.seq (.region [(.op (.loadN 3) [(.tmp 3)] (some 10) true), (.op (.storeN 3) [(.tmp 2), (.tmp 10)] none true)] false) .ret)))), [(.cell 2 (.loadN 3))], 11, .one, none⟩
theorem t141 : T 141 = some F141 := tab Try.func141 (by kernel_rfl) rfl
-- spec.l03Copy
def F142 : EF := ⟨(.seq (.region [(.op (.box 3) [(.tmp 0)] (some 1) true), (.op (.alloc (.agg [(.int .i64 0), (.int .i64 0), .nil])) [] (some 2) true)] false) (.seq (.region [(.op (.bslice 1 0 (.int .i64 0) []) [] (some 3) true), (.op (.faddr 2) [(.tmp 1)] (some 4) true), (.op .load1 [(.tmp 4)] (some 5) true), (.op (.append 1 8) [(.tmp 3), (.tmp 5)] (some 6) true), (.op (.faddr 2) [(.tmp 1)] (some 7) true), (.op .store1 [(.tmp 7), (.tmp 6)] none true)] false) (.seq (.region [(.op (.loadN 3) [(.tmp 1)] (some 8) true), (.op (.storeN 3) [(.tmp 2), (.tmp 8)] none true)] false) .ret))), [(.cell 2 (.loadN 3))], 9, (.agg [.one, .one, .row 1 .one]), none⟩
theorem t142 : T 142 = some F142 := tab Try.func142 (by kernel_rfl) rfl
-- impl.InodeNew
def F143 : EF := ⟨(.seq (.region [(.op (.alloc (.agg [(.int .i64 0), (.int .i64 0), .nil])) [] (some 2) true)] false) (.seq (.region [(.op .mv [(.tmp 0)] (some 4) true), (.op (.mkslice 1 8 (.int .i64 0)) [(.const (.int .i64 2)), (.const (.int .i64 2))] (some 5) true), (.op (.build [(.int .i64 0), (.int .i64 0), .nil] [(0, 1), (1, 1), (2, 1)]) [(.tmp 4), (.const (.int .i64 1)), (.tmp 5)] (some 6) true), (.op (.alloc (.agg [(.int .i64 0), (.int .i64 0), .nil])) [] (some 3) true), (.op (.storeN 3) [(.tmp 3), (.tmp 6)] none true)] false) (.seq (.seq (.region [(.op .mv [(.tmp 0)] (some 7) true), (.op (.bin .eql) [(.tmp 7), (.const (.int .i64 0))] (some 8) true)] false) (.cond (.tmp 8) (.region [(.op (.faddr 1) [(.tmp 3)] (some 9) true), (.op .store1 [(.tmp 9), (.const (.int .i64 0))] none true)] false) .skip)) (.seq (.region [(.op (.loadN 3) [(.tmp 3)] (some 10) true), (.op (.storeN 3) [(.tmp 2), (.tmp 10)] none true)] false) .ret)))), [(.cell 2 (.loadN 3))], 11, .one, none⟩
theorem t143 : T 143 = some F143 := tab Try.func143 (by kernel_rfl) rfl
-- impl.copyInode
def F144 : EF := ⟨(.seq (.region [(.op (.box 3) [(.tmp 0)] (some 1) true), (.op (.alloc (.agg [(.int .i64 0), (.int .i64 0), .nil])) [] (some 2) true)] false) (.seq (.region [(.op (.faddr 2) [(.tmp 1)] (some 3) true), (.op .load1 [(.tmp 3)] (some 4) true), (.pc (.const (.fn 217 [])) [(.tmp 4)] (some 5) true), (.op (.faddr 2) [(.tmp 1)] (some 6) true), (.op .store1 [(.tmp 6), (.tmp 5)] none true)] false) (.seq (.region [(.op (.loadN 3) [(.tmp 1)] (some 7) true), (.op (.storeN 3) [(.tmp 2), (.tmp 7)] none true)] false) .ret))), [(.cell 2 (.loadN 3))], 8, (.agg [.one, .one, .row 1 .one]), none⟩
theorem t144 : T 144 = some F144 := tab Try.func144 (by kernel_rfl) rfl
-- impl.copyInts
def F217 : EF := ⟨(.seq (.region [(.op .mv [(.const .nil)] (some 2) true)] false) (.seq (.region [(.op (.bslice 1 0 (.int .i64 0) []) [] (some 3) true), (.op .mv [(.tmp 0)] (some 4) true), (.op (.append 1 8) [(.tmp 3), (.tmp 4)] (some 5) true), (.op .mv [(.tmp 5)] (some 2) true)] false) .ret)), [(.tmp 2)], 6, (.row 1 .one), none⟩
theorem t217 : T 217 = some F217 := tab Try.func217 (by kernel_rfl) rfl
end Go.Proofs.Ytaaajjinpppgeaa

/- ImageInode: what is written of an inode. Own work; no condition. -/
set_option linter.unusedVariables false
set_option linter.unusedSimpArgs false
set_option linter.unusedSectionVars false
namespace Go.Proofs.Ytaaajjinpppgeaa
open Go Go.Abs
set_option maxRecDepth 100000
def inside (x a b : Int) : Bool := decide (a ≤ x) && decide (x ≤ b)
theorem e116i (x a b : Int) : E T 116 [.int .i64 x, .int .i64 a, .int .i64 b] [] = some (.bool (inside x a b), []) := by
  rw [E_eq t116 (Nat.le_of_ble_eq_true rfl)]; simp only [F116, go_sem, seval]; rfl
theorem e117i (x a b : Int) : E T 117 [.int .i64 x, .int .i64 a, .int .i64 b] [] = some (.bool (inside x a b), []) := by
  rw [E_eq t117 (Nat.le_of_ble_eq_true rfl)]; simp only [F117, go_sem, seval]; rfl
theorem e217 (l : List Int) (hl : l.length ≤ 1048576) : E T 217 [.ro 1 (l.map iv)] [] = some (.own 1 (l.map iv), []) := by
  rw [E_eqW t217 (Nat.le_of_ble_eq_true rfl)]
  cases l with
  | nil => simp only [F217, go_sem, seval, bnd_ite]
  | cons x xs =>
    have e := iv_mi
    have h : (xs.length + 1) * 8 ≤ 140737488355328 := by simp only [List.length_cons] at hl; omega
    simp only [F217, iv, go_sem, seval, bnd_ite, h]
theorem e144 (x : Ino) (h : x.sm) : E T 144 [ino x] [] = some (inoO x, []) := by
  rw [E_eqW t144 (Nat.le_of_ble_eq_true rfl)]
  have e1 := e217 x.ptrs h
  have htk : (List.map iv x.ptrs).take x.ptrs.length = List.map iv x.ptrs := List.take_of_length_le (by simp)
  simp only [ino, F144, go_sem, seval, bnd_ite, e1, inoO, htk]
theorem e142 (x : Ino) (h : x.sm) : E T 142 [ino x] [] = some (inoO x, []) := by
  rw [E_eqW t142 (Nat.le_of_ble_eq_true rfl)]
  obtain ⟨a, b, l⟩ := x
  cases l with
  | nil => simp only [ino, F142, go_sem, seval, bnd_ite, inoO]
  | cons y ys =>
    have h : (ys.length + 1) * 8 ≤ 140737488355328 := by unfold Ino.sm at h; simp only [List.length_cons] at h; omega
    simp only [ino, F142, iv, go_sem, seval, bnd_ite, h, inoO]
end Go.Proofs.Ytaaajjinpppgeaa

/- Loops over a row: what is carried, what is looked for. Own work; no condition. -/
set_option linter.unusedVariables false
set_option linter.unusedSimpArgs false
set_option linter.unusedSectionVars false
namespace Go.Proofs.Ytaaajjinpppgeaa
open Go Go.Abs
section
variable {T : FuncId → Option EF} {b : Nat} {hd : List Vw} {x : EC} {α β : Type}
/-- A loop over a row that turns what is carried, and leaves behind the last one. -/
theorem XL_each (l : List α) (f : β → α → β) (S : Nat → β → St) (I : Nat → β → Prop) (Q : β → AX × St → Prop)
    (step : ∀ i a p, l[i]? = some p → i < l.length → I i a → XG T b hd x (S i a) = some (.normal, S (i + 1) (f a p)) ∧ I (i + 1) (f a p))
    (last : ∀ a, I l.length a → Stops (XG T b hd x (S l.length a)) (Q a)) (a : β) (ha : I 0 a) : ∃ r, XL T b hd x (S 0 a) = some r ∧ Q (l.foldl f a) r := by
  have key : ∀ k i a, i + k = l.length → I i a → ∃ r, XL T b hd x (S i a) = some r ∧ Q ((l.drop i).foldl f a) r := by
    intro k
    induction k with
    | zero =>
      intro i a hi hI
      have : i = l.length := by omega
      subst this
      obtain ⟨r, h1, h2, h3⟩ := last a hI
      exact ⟨r, XL_out h1 h2, by simpa using h3⟩
    | succ k ih =>
      intro i a hi hI
      have hlt : i < l.length := by omega
      obtain ⟨h1, h2⟩ := step i a l[i] (by simp [hlt]) hlt hI
      obtain ⟨r, h3, h4⟩ := ih (i + 1) (f a l[i]) (by omega) h2
      refine ⟨r, by rw [XL_eq, h1]; exact h3, ?_⟩
      rw [List.drop_eq_getElem_cons hlt]; exact h4
  obtain ⟨r, h1, h2⟩ := key l.length 0 a (by omega) ha
  exact ⟨r, h1, by simpa using h2⟩
/-- A loop over a row that looks for the first one that fits. -/
theorem XL_find (l : List α) (P : α → Bool) (S : Nat → St) (Q : Option Nat → AX × St → Prop)
    (step : ∀ i p, l[i]? = some p → i < l.length → P p = false → (∀ q ∈ l.take i, P q = false) → XG T b hd x (S i) = some (.normal, S (i + 1)))
    (hit : ∀ i p, l[i]? = some p → i < l.length → P p = true → (∀ q ∈ l.take i, P q = false) → Stops (XG T b hd x (S i)) (Q (some i)))
    (last : (∀ q ∈ l, P q = false) → Stops (XG T b hd x (S l.length)) (Q none)) : ∃ r, XL T b hd x (S 0) = some r ∧ Q (l.findIdx? P) r := by
  have key : ∀ k i, i + k = l.length → (∀ q ∈ l.take i, P q = false) → ∃ r, XL T b hd x (S i) = some r ∧ Q (((l.drop i).findIdx? P).map (· + i)) r := by
    intro k
    induction k with
    | zero =>
      intro i hi hp
      have : i = l.length := by omega
      subst this
      rw [List.take_length] at hp
      obtain ⟨r, h1, h2, h3⟩ := last hp
      exact ⟨r, XL_out h1 h2, by simpa using h3⟩
    | succ k ih =>
      intro i hi hp
      have hlt : i < l.length := by omega
      have hg : l[i]? = some l[i] := by simp [hlt]
      rw [List.drop_eq_getElem_cons hlt, List.findIdx?_cons]
      cases hP : P l[i] with
      | true =>
        obtain ⟨r, h1, h2, h3⟩ := hit i l[i] hg hlt hP hp
        exact ⟨r, XL_out h1 h2, by simpa [hP] using h3⟩
      | false =>
        have h1 := step i l[i] hg hlt hP hp
        obtain ⟨r, h3, h4⟩ := ih (i + 1) (by omega) (fun q hq => by
          rw [take_snoc hg, List.mem_append, List.mem_singleton] at hq
          rcases hq with hq | rfl
          · exact hp q hq
          · exact hP)
        refine ⟨r, by rw [XL_eq, h1]; exact h3, ?_⟩
        rw [if_neg (by simp)]
        have e : ((((l.drop (i + 1)).findIdx? P).map (· + 1)).map (· + i)) = ((l.drop (i + 1)).findIdx? P).map (· + (i + 1)) := by
          cases (l.drop (i + 1)).findIdx? P with
          | none => rfl
          | some n => simp only [Option.map_some]; congr 1; omega
        rw [e]; exact h4
  obtain ⟨r, h1, h2⟩ := key l.length 0 (by omega) (by simp)
  refine ⟨r, h1, ?_⟩
  have e : ((l.drop 0).findIdx? P).map (· + 0) = l.findIdx? P := by cases h : l.findIdx? P <;> simp [h]
  rw [e] at h2; exact h2
end
/-- A loop over a row that looks whether all are right. -/
theorem XL_all {T : FuncId → Option EF} {b : Nat} {hd : List Vw} {x : EC} {α : Type} (l : List α) (P : α → Bool) (S : Nat → St) (Qx Qr : AX × St → Prop)
    (step : ∀ i p, l[i]? = some p → i < l.length → P p = true → (∀ q ∈ l.take i, P q = true) → XG T b hd x (S i) = some (.normal, S (i + 1)))
    (hit : ∀ i p, l[i]? = some p → i < l.length → P p = false → (∀ q ∈ l.take i, P q = true) → Stops (XG T b hd x (S i)) Qr)
    (last : (∀ q ∈ l, P q = true) → Stops (XG T b hd x (S l.length)) Qx) : ∃ r, XL T b hd x (S 0) = some r ∧ (l.all P = true ∧ Qx r ∨ l.all P = false ∧ Qr r) := by
  obtain ⟨r, h1, h2⟩ := XL_find (T := T) (b := b) (hd := hd) (x := x) l (fun p => !P p) S (fun o r => (o = none → Qx r) ∧ (o ≠ none → Qr r))
    (fun i p h1 h2 h3 h4 => step i p h1 h2 (by simpa using h3) (fun q hq => by simpa using h4 q hq))
    (fun i p h1 h2 h3 h4 => by
      obtain ⟨r, k1, k2, k3⟩ := hit i p h1 h2 (by simpa using h3) (fun q hq => by simpa using h4 q hq)
      exact ⟨r, k1, k2, by simp, fun _ => k3⟩)
    (fun h => by
      obtain ⟨r, k1, k2, k3⟩ := last (fun q hq => by simpa using h q hq)
      exact ⟨r, k1, k2, fun _ => k3, by simp⟩)
  refine ⟨r, h1, ?_⟩
  cases e : l.all P with
  | true => exact .inl ⟨rfl, h2.1 (by simpa using e)⟩
  | false => exact .inr ⟨rfl, h2.2 (by simpa using e)⟩
theorem find_none {α : Type} {l : List α} {P : α → Bool} : l.findIdx? P = none ↔ ∀ q ∈ l, P q = false := by simp
end Go.Proofs.Ytaaajjinpppgeaa

/- What is right: names, inodes. Own work; no condition. -/
set_option linter.unusedVariables false
set_option linter.unusedSimpArgs false
set_option linter.unusedSectionVars false
namespace Go.Proofs.Ytaaajjinpppgeaa
open Go Go.Abs
set_option maxRecDepth 100000
theorem e219 (a b : List Bool) : E T 219 [.agg [.ro 1 (a.map bv), .ro 1 (b.map bv)]] [] = some (.bool (decide (a.length = 16) && decide (b.length = 8)), []) := by
  rw [E_eq t219 (Nat.le_of_ble_eq_true rfl)]
  simp only [F219, go_sem, seval, bnd_ite]
  by_cases h1 : a.length = 16 <;> by_cases h2 : b.length = 8 <;> simp [h1, h2] <;> omega
theorem e225 (a b : List Bool) : E T 225 [.agg [.ro 1 (a.map bv), .ro 1 (b.map bv)]] [] = some (.bool (decide (a.length = 16) && decide (b.length = 8)), []) := by
  rw [E_eq t225 (Nat.le_of_ble_eq_true rfl)]
  simp only [F225, go_sem, seval, bnd_ite]
  by_cases h1 : a.length = 16 <;> by_cases h2 : b.length = 8 <;> simp [h1, h2] <;> omega
theorem e227 (x : Int) : E T 227 [.int .i64 x] [] = some (.bool (inside x 1 8), []) := by
  rw [E_eq t227 (Nat.le_of_ble_eq_true rfl)]
  simp only [F227, go_sem, seval, bnd_ite, e117i]
/-- A sign of a name. -/
def sgn (c : UInt8) : Bool := inside c.toNat 97 122 || inside c.toNat 48 57
def nameOk (s : ByteArray) : Bool := s.data.toList.all sgn && inside s.size 1 6
theorem ba_len (s : ByteArray) : s.data.toList.length = s.size := Array.length_toList
theorem e222 (s : ByteArray) (hl : s.size ≤ maxLen) : E T 222 [.str s] [] = some (.bool (nameOk s), []) := by
  rw [E_eq t222 (Nat.le_of_ble_eq_true rfl)]
  have hn := ba_len s
  unfold maxLen at hl
  refine (XL_all (T := T) (b := 0) (hd := H222_2) (x := L222_2) s.data.toList sgn (fun i => ⟨[(0, .str s), (3, .int .i64 (i : Nat))], []⟩)
    (fun r => r.1 = .exit 0 ∧ lookA r.2.env 0 = .str s) (fun r => r.1 = .ret ∧ lookA r.2.env 2 = .bool false) ?step ?hit ?last).elim ?main
  case step =>
    intro i c hc hi hp _
    have hi1 : (i : Int) < (s.size : Int) := by omega
    have gc : s.data.toList.getD i 0 = c := by simp [List.getD, hc]
    simp only [XG, L222_2, h222_2, go_sem, seval, bnd_ite, hi1, Int.toNat_natCast, gc, Int.natCast_nonneg, w_i64 ((i : Int) + 1) (by omega)]
    have hf : ((decide ((c.toNat : Int) < 97) || decide (122 < (c.toNat : Int))) && (decide ((c.toNat : Int) < 48) || decide (57 < (c.toNat : Int)))) = false := by
      rw [← Bool.not_eq_true]; intro h
      simp only [sgn, inside, Bool.or_eq_true, Bool.and_eq_true, decide_eq_true_eq] at hp h
      omega
    rw [hf]; simp only [Bool.false_eq_true, if_false]
    rfl
  case hit =>
    intro i c hc hi hp _
    have hi1 : (i : Int) < (s.size : Int) := by omega
    have gc : s.data.toList.getD i 0 = c := by simp [List.getD, hc]
    have hf : ((decide ((c.toNat : Int) < 97) || decide (122 < (c.toNat : Int))) && (decide ((c.toNat : Int) < 48) || decide (57 < (c.toNat : Int)))) = true := by
      simp only [sgn, inside, Bool.or_eq_false_iff, Bool.and_eq_false_iff, decide_eq_false_iff_not] at hp
      simp only [Bool.or_eq_true, Bool.and_eq_true, decide_eq_true_eq]
      omega
    simp only [XG, L222_2, h222_2, go_sem, seval, bnd_ite, hi1, Int.toNat_natCast, gc, Int.natCast_nonneg, w_i64 ((i : Int) + 1) (by omega), hf, if_true]
    exact .mk (by simp) ⟨rfl, rfl⟩
  case last =>
    intro _
    simp only [XG, L222_2, h222_2, go_sem, seval, bnd_ite, hn, Int.lt_irrefl, decide_false]
    exact .mk (by simp) ⟨rfl, rfl⟩
  case main =>
  rintro ⟨y, e, m⟩ ⟨k1, k2⟩
  have hs : ((0 : Nat) : Int) = 0 := rfl
  simp only [hs] at k1
  unfold nameOk
  rcases k2 with ⟨h, k2, k3⟩ | ⟨h, k2, k3⟩ <;> simp only at k2 k3 <;> subst k2
  · simp only [F222, h222_2, go_sem, seval, bnd_ite, k1, k3, e116i, h, Bool.true_and]
  · simp only [F222, h222_2, go_sem, seval, bnd_ite, k1, k3, h, Bool.false_and]
theorem e230 (s : ByteArray) (hl : s.size ≤ maxLen) : E T 230 [.str s] [] = some (.bool (nameOk s), []) := by
  rw [E_eq t230 (Nat.le_of_ble_eq_true rfl)]
  have hn := ba_len s
  unfold maxLen at hl
  refine (XL_all (T := T) (b := 0) (hd := H230_2) (x := L230_2) s.data.toList sgn (fun i => ⟨[(0, .str s), (5, .int .i64 s.size), (6, .int .i64 (i : Nat))], []⟩)
    (fun r => r.1 = .exit 0 ∧ lookA r.2.env 0 = .str s) (fun r => r.1 = .ret ∧ lookA r.2.env 2 = .bool false) ?step ?hit ?last).elim ?main
  case step =>
    intro i c hc hi hp _
    have hi1 : (i : Int) < (s.size : Int) := by omega
    have gc : s.data.toList.getD i 0 = c := by simp [List.getD, hc]
    have hw : (c.toNat : Int) ≤ 255 := by have := c.toNat_lt; omega
    simp only [sgn] at hp
    have hf : (!inside (c.toNat : Int) 97 122 && !inside (c.toNat : Int) 48 57) = false := by
      rw [← Bool.not_or, hp]; rfl
    simp only [XG, L230_2, h230_2, go_sem, seval, bnd_ite, hi1, Int.toNat_natCast, gc, Int.natCast_nonneg, w_i64 (c.toNat : Int) (by omega), w_i64 ((i : Int) + 1) (by omega), e117i, hf, Bool.false_eq_true, if_false]
    rfl
  case hit =>
    intro i c hc hi hp _
    have hi1 : (i : Int) < (s.size : Int) := by omega
    have gc : s.data.toList.getD i 0 = c := by simp [List.getD, hc]
    have hw : (c.toNat : Int) ≤ 255 := by have := c.toNat_lt; omega
    simp only [sgn] at hp
    have hf : (!inside (c.toNat : Int) 97 122 && !inside (c.toNat : Int) 48 57) = true := by
      rw [← Bool.not_or, hp]; rfl
    simp only [XG, L230_2, h230_2, go_sem, seval, bnd_ite, hi1, Int.toNat_natCast, gc, Int.natCast_nonneg, w_i64 (c.toNat : Int) (by omega), w_i64 ((i : Int) + 1) (by omega), e117i, hf, if_true]
    exact .mk (by simp) ⟨rfl, rfl⟩
  case last =>
    intro _
    simp only [XG, L230_2, h230_2, go_sem, seval, bnd_ite, hn, Int.lt_irrefl, decide_false]
    exact .mk (by simp) ⟨rfl, rfl⟩
  case main =>
  rintro ⟨y, e, m⟩ ⟨k1, k2⟩
  have hs : ((0 : Nat) : Int) = 0 := rfl
  simp only [hs] at k1
  unfold nameOk
  rcases k2 with ⟨h, k2, k3⟩ | ⟨h, k2, k3⟩ <;> simp only at k2 k3 <;> subst k2
  · simp only [F230, h230_2, go_sem, seval, bnd_ite, k1, k3, e117i, h, Bool.true_and]
  · simp only [F230, h230_2, go_sem, seval, bnd_ite, k1, k3, h, Bool.false_and]
end Go.Proofs.Ytaaajjinpppgeaa

/- What is right: inodes; the place of a name. Own work; no condition. -/
set_option linter.unusedVariables false
set_option linter.unusedSimpArgs false
set_option linter.unusedSectionVars false
namespace Go.Proofs.Ytaaajjinpppgeaa
open Go Go.Abs
set_option maxRecDepth 100000
def ptrOk (k p : Int) : Bool := inside p 0 16 && !(decide (k = 0) && decide (p ≠ 0))
def inoOk (x : Ino) : Bool := x.ptrs.all (ptrOk x.kind) && (inside x.kind 0 2 && inside x.links 0 200 && decide (x.ptrs.length = 2) && (!decide (x.kind = 0) || decide (x.links = 0)))
theorem e223 (x : Ino) (hk : x.ok) : E T 223 [ino x] [] = some (.bool (inoOk x), []) := by
  rw [E_eq t223 (Nat.le_of_ble_eq_true rfl)]
  unfold Ino.ok maxLen at hk
  refine (XL_all (T := T) (b := 0) (hd := H223_2) (x := L223_2) x.ptrs (ptrOk x.kind) (fun i => ⟨[(1, .ptr 0 0 0), (6, .ro 1 (x.ptrs.map iv)), (7, .int .i64 x.ptrs.length), (8, .int .i64 (i : Nat))], [some (3, [.agg [.int .i64 x.kind, .int .i64 x.links, .ro 1 (x.ptrs.map iv)]])]⟩)
    (fun r => r.1 = .exit 0 ∧ lookA r.2.env 1 = .ptr 0 0 0 ∧ r.2.mem = [some (3, [.agg [.int .i64 x.kind, .int .i64 x.links, .ro 1 (x.ptrs.map iv)]])]) (fun r => r.1 = .ret ∧ lookA r.2.env 2 = .bool false) ?step ?hit ?last).elim ?main
  case step =>
    intro i p hp hi hP _
    have hi1 : (i : Int) < (x.ptrs.length : Int) := by omega
    have gp : (x.ptrs.map iv).getD i .undef = .int .i64 p := gD_map hp
    have hf : (!inside p 0 16 || !decide (p = 0) && decide (x.kind = 0)) = false := by
      simp only [ptrOk, Bool.and_eq_true, Bool.not_eq_true'] at hP
      rw [hP.1]; rw [Bool.and_comm]; simpa using hP.2
    simp only [XG, L223_2, h223_2, go_sem, seval, bnd_ite, hi1, gp, Int.natCast_nonneg, w_i64 ((i : Int) + 1) (by omega), e117i, hf, Bool.false_eq_true, if_false]
    rfl
  case hit =>
    intro i p hp hi hP _
    have hi1 : (i : Int) < (x.ptrs.length : Int) := by omega
    have gp : (x.ptrs.map iv).getD i .undef = .int .i64 p := gD_map hp
    have hf : (!inside p 0 16 || !decide (p = 0) && decide (x.kind = 0)) = true := by
      unfold ptrOk at hP
      cases h1 : inside p 0 16 with
      | false => rfl
      | true => rw [h1, Bool.true_and] at hP; rw [Bool.and_comm]; simpa using hP
    simp only [XG, L223_2, h223_2, go_sem, seval, bnd_ite, hi1, gp, Int.natCast_nonneg, w_i64 ((i : Int) + 1) (by omega), e117i, hf, if_true]
    exact .mk (by simp) ⟨rfl, rfl⟩
  case last =>
    intro _
    simp only [XG, L223_2, h223_2, go_sem, seval, bnd_ite, Int.lt_irrefl, decide_false]
    exact .mk (by simp) ⟨rfl, rfl, rfl⟩
  case main =>
  rintro ⟨y, e, m⟩ ⟨k1, k2⟩
  have hs : ((0 : Nat) : Int) = 0 := rfl
  simp only [hs] at k1
  unfold inoOk
  rcases k2 with ⟨h, k2, k3⟩ | ⟨h, k2, k3⟩ <;> simp only at k2 k3 <;> subst k2
  · obtain ⟨k3, rfl⟩ := k3
    simp only [ino, F223, h223_2, go_sem, seval, bnd_ite, k1, k3, e117i, h, Bool.true_and]
    have hl : decide ((x.ptrs.length : Int) = 2) = decide (x.ptrs.length = 2) := by congr 1; apply propext; omega
    rw [hl]
  · simp only [ino, F223, h223_2, go_sem, seval, bnd_ite, k1, k3, h, Bool.false_and]
theorem e220 (x : Ino) (hk : x.ok) : E T 220 [ino x] [] = some (.bool (inoOk x), []) := by
  rw [E_eq t220 (Nat.le_of_ble_eq_true rfl)]
  unfold Ino.ok maxLen at hk
  have hl : decide ((x.ptrs.length : Int) = 2) = decide (x.ptrs.length = 2) := by congr 1; apply propext; omega
  by_cases hc : (inside x.kind 0 2 && inside x.links 0 200 && decide (x.ptrs.length = 2)) = true
  case neg =>
    have hf : (!inside x.kind 0 2 || !inside x.links 0 200 || !decide (x.ptrs.length = 2)) = true := by
      rw [← Bool.not_and, ← Bool.not_and, Bool.eq_false_iff.2 hc]; rfl
    have hr : inoOk x = false := by
      have hc : (inside x.kind 0 2 && inside x.links 0 200 && decide (x.ptrs.length = 2)) = false := Bool.eq_false_iff.2 hc
      unfold inoOk; rw [hc]; simp
    simp only [ino, F220, h220_4, go_sem, seval, bnd_ite, e116i, hl, hf, hr, if_true]
  have hf : (!inside x.kind 0 2 || !inside x.links 0 200 || !decide (x.ptrs.length = 2)) = false := by
    rw [← Bool.not_and, ← Bool.not_and, hc]; rfl
  have h2 : x.ptrs.length = 2 := by simp only [Bool.and_eq_true, decide_eq_true_eq] at hc; exact hc.2
  refine (XL_all (T := T) (b := 0) (hd := H220_4) (x := L220_4) x.ptrs (ptrOk x.kind) (fun i => ⟨[(1, .ptr 0 0 0), (3, .int .i64 (i : Nat))], [some (3, [.agg [.int .i64 x.kind, .int .i64 x.links, .ro 1 (x.ptrs.map iv)]])]⟩)
    (fun r => r.1 = .exit 0 ∧ lookA r.2.env 1 = .ptr 0 0 0 ∧ r.2.mem = [some (3, [.agg [.int .i64 x.kind, .int .i64 x.links, .ro 1 (x.ptrs.map iv)]])]) (fun r => r.1 = .ret ∧ lookA r.2.env 2 = .bool false) ?step ?hit ?last).elim ?main
  case step =>
    intro i p hp hi hP _
    have hi1 : (i : Int) < (x.ptrs.length : Int) := by omega
    have hi2 : (i : Int) < 2 := by omega
    have gp : (x.ptrs.map iv).getD i .undef = .int .i64 p := gD_map hp
    have hf : (!inside p 0 16 || decide (x.kind = 0) && !decide (p = 0)) = false := by
      simp only [ptrOk, Bool.and_eq_true, Bool.not_eq_true'] at hP
      rw [hP.1]; simpa using hP.2
    simp only [XG, L220_4, h220_4, go_sem, seval, bnd_ite, hi1, hi2, gp, Int.natCast_nonneg, w_i64 ((i : Int) + 1) (by omega), e116i, hf, Bool.false_eq_true, if_false]
    rfl
  case hit =>
    intro i p hp hi hP _
    have hi1 : (i : Int) < (x.ptrs.length : Int) := by omega
    have hi2 : (i : Int) < 2 := by omega
    have gp : (x.ptrs.map iv).getD i .undef = .int .i64 p := gD_map hp
    have hf : (!inside p 0 16 || decide (x.kind = 0) && !decide (p = 0)) = true := by
      unfold ptrOk at hP
      cases h1 : inside p 0 16 with
      | false => rfl
      | true => rw [h1, Bool.true_and] at hP; simpa using hP
    simp only [XG, L220_4, h220_4, go_sem, seval, bnd_ite, hi1, hi2, gp, Int.natCast_nonneg, w_i64 ((i : Int) + 1) (by omega), e116i, hf, if_true]
    exact .mk (by simp) ⟨rfl, rfl⟩
  case last =>
    intro _
    have hi2 : ¬ (x.ptrs.length : Int) < 2 := by omega
    simp only [XG, L220_4, h220_4, go_sem, seval, bnd_ite, hi2, decide_false]
    exact .mk (by simp) ⟨rfl, rfl, rfl⟩
  case main =>
  rintro ⟨y, e, m⟩ ⟨k1, k2⟩
  have hs : ((0 : Nat) : Int) = 0 := rfl
  simp only [hs] at k1
  unfold inoOk
  rcases k2 with ⟨h, k2, k3⟩ | ⟨h, k2, k3⟩ <;> simp only at k2 k3 <;> subst k2
  · obtain ⟨k3, rfl⟩ := k3
    simp only [ino, F220, h220_4, go_sem, seval, bnd_ite, k1, k3, e116i, hl, hf, hc, h, Bool.true_and, Bool.false_eq_true, if_false]
  · simp only [ino, F220, h220_4, go_sem, seval, bnd_ite, k1, k3, e116i, hl, hf, hc, h, Bool.false_and, Bool.false_eq_true, if_false]
/-- The place of a name in a row of slots: -1 where it is not there. -/
def slotOf (l : List Slt) (s : ByteArray) : Int := if s.size = 0 then -1 else (match l.findIdx? (fun x => decide (x.name = s)) with | some i => (i : Nat) | none => -1)
theorem e295 (x : Slt) (s : ByteArray) : E T 295 [slt x, .rop [.str s]] [] = some (.bool (decide (x.name = s)), []) := by
  rw [E_eq t295 (Nat.le_of_ble_eq_true rfl)]
  simp only [slt, F295, go_sem, seval, bnd_ite]
theorem e294 (l : List Slt) (s : ByteArray) (hl : l.length ≤ maxLen) : E T 294 [.ro 2 (l.map slt), .fn 295 [.rop [.str s]]] [] = some (.int .i64 (match l.findIdx? (fun x => decide (x.name = s)) with | some i => (i : Nat) | none => -1), []) := by
  rw [E_eq t294 (Nat.le_of_ble_eq_true rfl)]
  unfold maxLen at hl
  refine (XL_find (T := T) (b := 0) (hd := H294_2) (x := L294_2) l (fun x => decide (x.name = s)) (fun i => ⟨[(0, .ro 2 (l.map slt)), (1, .fn 295 [.rop [.str s]]), (7, .int .i64 l.length), (8, .int .i64 (i : Nat))], []⟩)
    (fun o r => match o with | some i => r.1 = .ret ∧ lookA r.2.env 4 = .int .i64 (i : Nat) | none => r.1 = .exit 0) ?step ?hit ?last).elim ?main
  case step =>
    intro i p hp hi hP _
    have hi1 : (i : Int) < (l.length : Int) := by omega
    have gp : (l.map slt).getD i .undef = .agg [.str p.name, .int .i64 p.ino] := gD_map hp
    have e1 := e295 p s
    unfold slt at e1
    simp only [XG, L294_2, h294_2, go_sem, seval, bnd_ite, hi1, gp, Int.natCast_nonneg, w_i64 ((i : Int) + 1) (by omega), e1, hP, Bool.false_eq_true, if_false]
    rfl
  case hit =>
    intro i p hp hi hP _
    have hi1 : (i : Int) < (l.length : Int) := by omega
    have gp : (l.map slt).getD i .undef = .agg [.str p.name, .int .i64 p.ino] := gD_map hp
    have e1 := e295 p s
    unfold slt at e1
    simp only [XG, L294_2, h294_2, go_sem, seval, bnd_ite, hi1, gp, Int.natCast_nonneg, w_i64 ((i : Int) + 1) (by omega), e1, hP, if_true]
    exact .mk (by simp) ⟨rfl, rfl⟩
  case last =>
    intro _
    simp only [XG, L294_2, h294_2, go_sem, seval, bnd_ite, Int.lt_irrefl, decide_false]
    exact .mk (by simp) rfl
  case main =>
  rintro ⟨y, e, m⟩ ⟨k1, k2⟩
  have hs : ((0 : Nat) : Int) = 0 := rfl
  simp only [hs] at k1
  split at k2
  · rename_i o i heq
    obtain ⟨k2, k3⟩ := k2
    simp only at k2 k3; subst k2
    simp only [F294, h294_2, go_sem, seval, bnd_ite, k1, k3, heq]
  · rename_i o heq
    simp only at k2; subst k2
    simp only [F294, h294_2, go_sem, seval, bnd_ite, k1, heq]
theorem e265 (x : Blk) (s : ByteArray) (hl : x.slots.length ≤ maxLen) : E T 265 [blk x, .str s] [] = some (.int .i64 (slotOf x.slots s), []) := by
  rw [E_eq t265 (Nat.le_of_ble_eq_true rfl)]
  have e1 := e294 x.slots s hl
  unfold slotOf
  by_cases h : s = ⟨#[]⟩
  · subst h
    simp only [blk, F265, go_sem, seval, bnd_ite, decide_true, if_true]
    rfl
  · have h2 : ¬ s.size = 0 := fun hh => h (by cases s with | mk a => congr 1; exact Array.eq_empty_of_size_eq_zero hh)
    simp only [blk, F265, go_sem, seval, bnd_ite, h, h2, e1, decide_false, if_false]
end Go.Proofs.Ytaaajjinpppgeaa

/- What is right: blocks. Own work; no condition. -/
set_option linter.unusedVariables false
set_option linter.unusedSimpArgs false
set_option linter.unusedSectionVars false
namespace Go.Proofs.Ytaaajjinpppgeaa
open Go Go.Abs
set_option maxRecDepth 100000
def bare (s : Slt) : Bool := decide (s.name = ⟨#[]⟩) && decide (s.ino = 0)
def newName (l : List Slt) (i : Nat) (s : Slt) : Bool := (l.take i).all fun q => !decide (q.name = s.name)
def slotOk (l : List Slt) (i : Nat) (s : Slt) : Bool := bare s || (nameOk s.name && inside s.ino 1 8 && newName l i s)
def blkOk (x : Blk) : Bool := if x.dir then x.slots.zipIdx.all (fun p => slotOk x.slots p.2 p.1) && (decide (x.slots.length = 4) && decide (x.text = ⟨#[]⟩)) else decide (x.slots.length = 0) && decide (x.text.size ≤ 16)
theorem zip_at {α : Type} {l : List α} {i : Nat} {p : α × Nat} (h : l.zipIdx[i]? = some p) : l[i]? = some p.1 ∧ p.2 = i := by
  rw [List.getElem?_zipIdx] at h
  cases e : l[i]? with
  | none => rw [e] at h; cases h
  | some x => rw [e] at h; simp at h; subst h; exact ⟨rfl, rfl⟩
theorem nameOk_ne {s : ByteArray} (h : nameOk s = true) : s.size ≠ 0 := by
  simp only [nameOk, inside, Bool.and_eq_true, decide_eq_true_eq] at h
  omega
theorem slotOf_at {l : List Slt} {i : Nat} {s : Slt} (h : l[i]? = some s) (hn : s.name.size ≠ 0) : slotOf l s.name = (i : Nat) ↔ newName l i s = true := by
  unfold slotOf newName
  rw [if_neg hn]
  obtain ⟨hi, rfl⟩ := List.getElem?_eq_some_iff.1 h
  cases e : l.findIdx? (fun x => decide (x.name = l[i].name)) with
  | none =>
    rw [find_none] at e
    have := e l[i] (List.getElem_mem hi)
    simp at this
  | some j =>
    rw [List.findIdx?_eq_some_iff_getElem] at e
    obtain ⟨hj, h1, h2⟩ := e
    simp only [decide_eq_true_eq] at h1
    constructor
    · intro hij
      have hij : ((j : Nat) : Int) = (i : Nat) := hij
      have : j = i := by omega
      subst this
      rw [List.all_eq_true]
      intro q hq
      obtain ⟨k, hk, rfl⟩ := List.mem_take_iff_getElem.1 hq
      have := h2 k (by omega)
      simpa using this
    · intro hall
      rw [List.all_eq_true] at hall
      by_cases c : j < i
      · have := hall l[j] (List.mem_take_iff_getElem.2 ⟨j, by omega, rfl⟩)
        simp [h1] at this
      · by_cases c2 : i < j
        · have := h2 i c2; simp at this
        · have : j = i := by omega
          rw [this]
theorem blk_nil {x : Blk} (h : x.dir = false) : blkOk x = (decide (x.slots.length = 0) && decide (x.text.size ≤ 16)) := by unfold blkOk; rw [h]; rfl
theorem e224 (x : Blk) (hk : x.ok) : E T 224 [blk x] [] = some (.bool (blkOk x), []) := by
  rw [E_eq t224 (Nat.le_of_ble_eq_true rfl)]
  obtain ⟨hk1, hk2, hk3⟩ := hk
  unfold maxLen at hk1
  cases hd : x.dir with
  | false =>
    rw [blk_nil hd]
    simp only [blk, F224, h224_4, go_sem, seval, bnd_ite, hd, Bool.not_false, if_true]
    by_cases h1 : x.slots.length = 0 <;> by_cases h2 : x.text.size ≤ 16 <;> simp [h1, h2] <;> omega
  | true =>
  refine (XL_all (T := T) (b := 0) (hd := H224_4) (x := L224_4) x.slots.zipIdx (fun p => slotOk x.slots p.2 p.1) (fun i => ⟨[(1, .ptr 0 0 0), (19, .ro 2 (x.slots.map slt)), (20, .int .i64 x.slots.length), (21, .int .i64 (i : Nat))], [some (3, [.agg [.bool true, .ro 2 (x.slots.map slt), .str x.text]])]⟩)
    (fun r => r.1 = .exit 0 ∧ lookA r.2.env 1 = .ptr 0 0 0 ∧ r.2.mem = [some (3, [.agg [.bool true, .ro 2 (x.slots.map slt), .str x.text]])]) (fun r => r.1 = .ret ∧ lookA r.2.env 2 = .bool false) ?step ?hit ?last).elim ?main
  case step =>
    rintro i ⟨s, j⟩ hp hi hP _
    obtain ⟨hp, hj⟩ := zip_at hp
    simp only at hp hj hP; subst hj
    rw [List.length_zipIdx] at hi
    have hi1 : (j : Int) < (x.slots.length : Int) := by omega
    have gp : (x.slots.map slt).getD j .undef = .agg [.str s.name, .int .i64 s.ino] := gD_map hp
    have hs := hk3 s (List.mem_of_getElem? hp)
    have e1 := e230 s.name hs
    have e2 := e265 x s.name hk1
    unfold blk at e2
    rw [hd] at e2
    simp only [slotOk] at hP
    cases hb : bare s with
    | true =>
      simp only [bare, Bool.and_eq_true, decide_eq_true_eq] at hb
      obtain ⟨b1, b2⟩ := hb
      simp only [XG, L224_4, h224_4, go_sem, seval, bnd_ite, hi1, gp, b1, b2, Int.natCast_nonneg, w_i64 ((j : Int) + 1) (by omega), e117i, decide_true, Bool.and_self, if_true]
      first | done | rfl
    | false =>
      rw [hb, Bool.false_or, Bool.and_eq_true, Bool.and_eq_true] at hP
      obtain ⟨⟨p1, p2⟩, p3⟩ := hP
      have p4 := (slotOf_at hp (nameOk_ne p1)).2 p3
      simp only [bare] at hb
      have e3 := e227 s.ino
      simp only [XG, L224_4, h224_4, go_sem, seval, bnd_ite, hi1, gp, e1, e2, e3, hb, p1, p2, p4, Int.natCast_nonneg, w_i64 ((j : Int) + 1) (by omega), decide_true, Bool.not_true, Bool.or_self, Bool.and_self, Bool.false_eq_true, if_false]
      first | done | rfl
  case hit =>
    rintro i ⟨s, j⟩ hp hi hP _
    obtain ⟨hp, hj⟩ := zip_at hp
    simp only at hp hj hP; subst hj
    rw [List.length_zipIdx] at hi
    have hi1 : (j : Int) < (x.slots.length : Int) := by omega
    have gp : (x.slots.map slt).getD j .undef = .agg [.str s.name, .int .i64 s.ino] := gD_map hp
    have hs := hk3 s (List.mem_of_getElem? hp)
    have e1 := e230 s.name hs
    have e2 := e265 x s.name hk1
    unfold blk at e2
    rw [hd] at e2
    have e3 := e227 s.ino
    simp only [slotOk, Bool.or_eq_false_iff] at hP
    obtain ⟨hb, hP⟩ := hP
    simp only [bare] at hb
    have hf : (!nameOk s.name || !inside s.ino 1 8 || !decide (slotOf x.slots s.name = (j : Nat))) = true := by
      cases p1 : nameOk s.name with
      | false => rfl
      | true =>
        have p4 := slotOf_at hp (nameOk_ne p1)
        rw [p1, Bool.true_and] at hP
        cases p2 : inside s.ino 1 8 with
        | false => rfl
        | true =>
          rw [p2, Bool.true_and] at hP
          have : ¬ slotOf x.slots s.name = (j : Nat) := fun h => by rw [p4.1 h] at hP; cases hP
          simp [this]
    simp only [XG, L224_4, h224_4, go_sem, seval, bnd_ite, hi1, gp, e1, e2, e3, hb, hf, Int.natCast_nonneg, w_i64 ((j : Int) + 1) (by omega), Bool.false_eq_true, if_false, if_true]
    exact .mk (by simp) ⟨rfl, rfl⟩
  case last =>
    intro _
    simp only [XG, L224_4, h224_4, go_sem, seval, bnd_ite, List.length_zipIdx, Int.lt_irrefl, decide_false]
    exact .mk (by simp) ⟨rfl, rfl, rfl⟩
  case main =>
  rintro ⟨y, e, m⟩ ⟨k1, k2⟩
  have hs : ((0 : Nat) : Int) = 0 := rfl
  simp only [hs] at k1
  unfold blkOk
  rw [hd, if_pos rfl]
  rcases k2 with ⟨h, k2, k3⟩ | ⟨h, k2, k3⟩ <;> simp only at k2 k3 <;> subst k2
  · obtain ⟨k3, rfl⟩ := k3
    have hl : decide ((x.slots.length : Int) = 4) = decide (x.slots.length = 4) := by congr 1; apply propext; omega
    simp only [blk, F224, h224_4, go_sem, seval, bnd_ite, hd, hl, k1, k3, h, Bool.true_and, Bool.not_true, Bool.false_eq_true, if_false]
  · simp only [blk, F224, h224_4, go_sem, seval, bnd_ite, hd, k1, k3, h, Bool.false_and, Bool.not_true, Bool.false_eq_true, if_false]
end Go.Proofs.Ytaaajjinpppgeaa

/- What is right: blocks by the reference, disks. Own work; no condition. -/
set_option linter.unusedVariables false
set_option linter.unusedSimpArgs false
set_option linter.unusedSectionVars false
namespace Go.Proofs.Ytaaajjinpppgeaa
open Go Go.Abs
set_option maxRecDepth 100000
/-- Whether a slot's name is there ahead of it. -/
theorem in221 (x : Blk) (s : Slt) (j : Nat) (hj : j ≤ x.slots.length) (hl : x.slots.length ≤ 4) :
    ∃ r, XL T 0 H221_13 L221_13 ⟨[(1, .ptr 0 0 0), (3, .int .i64 j), (4, .ptr 1 0 0), (5, .int .i64 0)], [some (3, [.agg [.bool true, .ro 2 (x.slots.map slt), .str x.text]]), some (2, [.agg [.str s.name, .int .i64 s.ino]])]⟩ = some r ∧
      (newName x.slots j s = true ∧ (r.1 = .exit 2 ∧ lookA r.2.env 1 = .ptr 0 0 0 ∧ lookA r.2.env 3 = .int .i64 j ∧ lookA r.2.env 4 = .ptr 1 0 0 ∧ r.2.mem = [some (3, [.agg [.bool true, .ro 2 (x.slots.map slt), .str x.text]]), some (2, [.agg [.str s.name, .int .i64 s.ino]])]) ∨
       newName x.slots j s = false ∧ (r.1 = .ret ∧ lookA r.2.env 2 = .bool false)) := by
  have hlt : (x.slots.take j).length = j := by rw [List.length_take]; omega
  refine XL_all (x.slots.take j) (fun q => !decide (q.name = s.name)) (fun i => ⟨[(1, .ptr 0 0 0), (3, .int .i64 j), (4, .ptr 1 0 0), (5, .int .i64 (i : Nat))], [some (3, [.agg [.bool true, .ro 2 (x.slots.map slt), .str x.text]]), some (2, [.agg [.str s.name, .int .i64 s.ino]])]⟩)
    (fun r => r.1 = .exit 2 ∧ lookA r.2.env 1 = .ptr 0 0 0 ∧ lookA r.2.env 3 = .int .i64 j ∧ lookA r.2.env 4 = .ptr 1 0 0 ∧ r.2.mem = [some (3, [.agg [.bool true, .ro 2 (x.slots.map slt), .str x.text]]), some (2, [.agg [.str s.name, .int .i64 s.ino]])])
    (fun r => r.1 = .ret ∧ lookA r.2.env 2 = .bool false) ?step ?hit ?last
  case step =>
    intro i p hp hi hP _
    rw [hlt] at hi
    rw [List.getElem?_take_of_lt hi] at hp
    have hi1 : (i : Int) < (j : Int) := by omega
    have hi2 : (i : Int) < (x.slots.length : Int) := by omega
    have gp : (x.slots.map slt).getD i .undef = .agg [.str p.name, .int .i64 p.ino] := gD_map hp
    have hP : decide (p.name = s.name) = false := by simpa using hP
    simp only [XG, L221_13, h221_13, go_sem, seval, bnd_ite, hi1, hi2, gp, hP, Int.natCast_nonneg, w_i64 ((i : Int) + 1) (by omega), Bool.false_eq_true, if_false]
    first | done | rfl
  case hit =>
    intro i p hp hi hP _
    rw [hlt] at hi
    rw [List.getElem?_take_of_lt hi] at hp
    have hi1 : (i : Int) < (j : Int) := by omega
    have hi2 : (i : Int) < (x.slots.length : Int) := by omega
    have gp : (x.slots.map slt).getD i .undef = .agg [.str p.name, .int .i64 p.ino] := gD_map hp
    have hP : decide (p.name = s.name) = true := by simpa using hP
    simp only [XG, L221_13, h221_13, go_sem, seval, bnd_ite, hi1, hi2, gp, hP, Int.natCast_nonneg, w_i64 ((i : Int) + 1) (by omega), if_true]
    exact .mk (by simp) ⟨rfl, rfl⟩
  case last =>
    intro _
    simp only [XG, L221_13, h221_13, go_sem, seval, bnd_ite, hlt, Int.lt_irrefl, decide_false]
    exact .mk (by simp) ⟨rfl, rfl, rfl, rfl, rfl⟩
theorem e221 (x : Blk) (hk : x.ok) : E T 221 [blk x] [] = some (.bool (blkOk x), []) := by
  rw [E_eq t221 (Nat.le_of_ble_eq_true rfl)]
  obtain ⟨hk1, hk2, hk3⟩ := hk
  unfold maxLen at hk1
  cases hd : x.dir with
  | false =>
    rw [blk_nil hd]
    simp only [blk, F221, h221_6, go_sem, seval, bnd_ite, hd, Bool.not_false, if_true]
    by_cases h1 : x.slots.length = 0 <;> by_cases h2 : x.text.size ≤ 16 <;> simp [h1, h2] <;> omega
  | true =>
  have hl : decide ((x.slots.length : Int) = 4) = decide (x.slots.length = 4) := by congr 1; apply propext; omega
  by_cases hc : (decide (x.slots.length = 4) && decide (x.text = ⟨#[]⟩)) = true
  case neg =>
    have hf : (!decide (x.slots.length = 4) || !decide (x.text = ⟨#[]⟩)) = true := by
      rw [← Bool.not_and, Bool.eq_false_iff.2 hc]; rfl
    have hr : blkOk x = false := by
      unfold blkOk; rw [hd, if_pos rfl, Bool.eq_false_iff.2 hc, Bool.and_false]
    simp only [blk, F221, h221_6, go_sem, seval, bnd_ite, hd, hl, hf, hr, Bool.not_true, Bool.false_eq_true, if_true, if_false]
  have hf : (!decide (x.slots.length = 4) || !decide (x.text = ⟨#[]⟩)) = false := by
    rw [← Bool.not_and, hc]; rfl
  have h2 : x.slots.length = 4 := by simp only [Bool.and_eq_true, decide_eq_true_eq] at hc; exact hc.1
  refine (XL_all (T := T) (b := 0) (hd := H221_6) (x := L221_6) x.slots.zipIdx (fun p => slotOk x.slots p.2 p.1) (fun i => ⟨[(1, .ptr 0 0 0), (3, .int .i64 (i : Nat))], [some (3, [.agg [.bool true, .ro 2 (x.slots.map slt), .str x.text]])]⟩)
    (fun r => r.1 = .exit 0) (fun r => r.1 = .ret ∧ lookA r.2.env 2 = .bool false) ?step ?hit ?last).elim ?main
  case step =>
    rintro i ⟨s, j⟩ hp hi hP _
    obtain ⟨hp, hj⟩ := zip_at hp
    simp only at hp hj hP; subst hj
    rw [List.length_zipIdx] at hi
    have hi1 : (j : Int) < (x.slots.length : Int) := by omega
    have hi2 : (j : Int) < 4 := by omega
    have gp : (x.slots.map slt).getD j .undef = .agg [.str s.name, .int .i64 s.ino] := gD_map hp
    have hs := hk3 s (List.mem_of_getElem? hp)
    have e1 := e222 s.name hs
    simp only [slotOk] at hP
    cases hb : bare s with
    | true =>
      simp only [bare] at hb
      simp only [XG, L221_6, h221_6, go_sem, seval, bnd_ite, hi1, hi2, gp, hb, Int.natCast_nonneg, w_i64 ((j : Int) + 1) (by omega), if_true]
      first | done | rfl
    | false =>
      rw [hb, Bool.false_or, Bool.and_eq_true, Bool.and_eq_true] at hP
      obtain ⟨⟨p1, p2⟩, p3⟩ := hP
      simp only [bare] at hb
      obtain ⟨⟨y, e, m⟩, k1, k2⟩ := in221 x s j (by omega) (by omega)
      rcases k2 with ⟨h, kx, k3, k4, k5, km⟩ | ⟨h, _⟩
      · simp only at kx k3 k4 k5 km; subst kx; subst km
        simp only [XG, L221_6, h221_6, h221_13, go_sem, seval, bnd_ite, hi1, hi2, gp, e1, e116i, hb, p1, p2, k1, k3, k4, k5, Int.natCast_nonneg, w_i64 ((j : Int) + 1) (by omega), Bool.not_true, Bool.or_self, Bool.false_eq_true, if_false]
        first | done | rfl
      · rw [p3] at h; cases h
  case hit =>
    rintro i ⟨s, j⟩ hp hi hP _
    obtain ⟨hp, hj⟩ := zip_at hp
    simp only at hp hj hP; subst hj
    rw [List.length_zipIdx] at hi
    have hi1 : (j : Int) < (x.slots.length : Int) := by omega
    have hi2 : (j : Int) < 4 := by omega
    have gp : (x.slots.map slt).getD j .undef = .agg [.str s.name, .int .i64 s.ino] := gD_map hp
    have hs := hk3 s (List.mem_of_getElem? hp)
    have e1 := e222 s.name hs
    simp only [slotOk, Bool.or_eq_false_iff] at hP
    obtain ⟨hb, hP⟩ := hP
    simp only [bare] at hb
    cases hf : (!nameOk s.name || !inside s.ino 1 8) with
    | true =>
      simp only [XG, L221_6, h221_6, go_sem, seval, bnd_ite, hi1, hi2, gp, e1, e116i, hb, hf, Int.natCast_nonneg, w_i64 ((j : Int) + 1) (by omega), Bool.false_eq_true, if_false, if_true]
      exact .mk (by simp) ⟨rfl, rfl⟩
    | false =>
      obtain ⟨⟨y, e, m⟩, k1, k2⟩ := in221 x s j (by omega) (by omega)
      have p3 : newName x.slots j s = false := by
        rw [← Bool.not_and, Bool.not_eq_false'] at hf
        rw [hf, Bool.true_and] at hP; exact hP
      rcases k2 with ⟨h, _⟩ | ⟨h, kx, k3⟩
      · rw [p3] at h; cases h
      · simp only at kx k3; subst kx
        simp only [XG, L221_6, h221_6, h221_13, go_sem, seval, bnd_ite, hi1, hi2, gp, e1, e116i, hb, hf, k1, k3, Int.natCast_nonneg, w_i64 ((j : Int) + 1) (by omega), Bool.false_eq_true, if_false]
        exact .mk (by simp) ⟨rfl, k3⟩
  case last =>
    intro _
    have hi2 : ¬ (x.slots.length : Int) < 4 := by omega
    simp only [XG, L221_6, h221_6, go_sem, seval, bnd_ite, List.length_zipIdx, hi2, decide_false]
    exact .mk (by simp) rfl
  case main =>
  rintro ⟨y, e, m⟩ ⟨k1, k2⟩
  have hs : ((0 : Nat) : Int) = 0 := rfl
  simp only [hs] at k1
  unfold blkOk
  rw [hd, if_pos rfl, hc, Bool.and_true]
  rcases k2 with ⟨h, k2⟩ | ⟨h, k2, k3⟩ <;> simp only at k2 <;> subst k2
  · simp only [blk, F221, h221_6, go_sem, seval, bnd_ite, hd, hl, hf, k1, h, Bool.not_true, Bool.false_eq_true, if_false]
  · simp only at k3
    simp only [blk, F221, h221_6, go_sem, seval, bnd_ite, hd, hl, hf, k1, k3, h, Bool.not_true, Bool.false_eq_true, if_false]
def dskOk (x : Dsk) : Bool := x.inos.all inoOk && (x.blks.all blkOk && ((decide (x.used.length = 16) && decide (x.taken.length = 8)) && decide (x.inos.length = 8) && decide (x.blks.length = 16)))
end Go.Proofs.Ytaaajjinpppgeaa

/- What is right: disks. Own work; no condition. -/
set_option linter.unusedVariables false
set_option linter.unusedSimpArgs false
set_option linter.unusedSectionVars false
namespace Go.Proofs.Ytaaajjinpppgeaa
open Go Go.Abs
set_option maxRecDepth 100000
def dskV (x : Dsk) : List AV := [.ro 1 (x.used.map bv), .ro 1 (x.taken.map bv), .ro 3 (x.inos.map ino), .ro 3 (x.blks.map blk)]
theorem in155a (x : Dsk) (hk : x.ok) : ∃ r, XL T 0 H155_2 L155_2 ⟨[(1, .ptr 0 0 0), (8, .ro 3 (x.inos.map ino)), (9, .int .i64 x.inos.length), (10, .int .i64 0)], [some (4, [.agg (dskV x)])]⟩ = some r ∧
    (x.inos.all inoOk = true ∧ (r.1 = .exit 0 ∧ lookA r.2.env 1 = .ptr 0 0 0 ∧ r.2.mem = [some (4, [.agg (dskV x)])]) ∨ x.inos.all inoOk = false ∧ (r.1 = .ret ∧ lookA r.2.env 2 = .bool false)) := by
  have hl := hk.inos
  unfold maxLen at hl
  refine XL_all x.inos inoOk (fun i => ⟨[(1, .ptr 0 0 0), (8, .ro 3 (x.inos.map ino)), (9, .int .i64 x.inos.length), (10, .int .i64 (i : Nat))], [some (4, [.agg (dskV x)])]⟩) (fun r => r.1 = .exit 0 ∧ lookA r.2.env 1 = .ptr 0 0 0 ∧ r.2.mem = [some (4, [.agg (dskV x)])]) (fun r => r.1 = .ret ∧ lookA r.2.env 2 = .bool false) ?step ?hit ?last
  case step =>
    intro i p hp hi hP _
    have hi1 : (i : Int) < (x.inos.length : Int) := by omega
    have gp : (x.inos.map ino).getD i .undef = .agg [.int .i64 p.kind, .int .i64 p.links, .ro 1 (p.ptrs.map iv)] := gD_map hp
    have e1 := e223 p (hk.ino p (List.mem_of_getElem? hp))
    unfold ino at e1
    unfold dskV
    simp only [XG, L155_2, h155_2, go_sem, seval, bnd_ite, hi1, gp, e1, hP, Int.natCast_nonneg, w_i64 ((i : Int) + 1) (by omega), Bool.not_true, Bool.false_eq_true, if_false]
    first | done | rfl
  case hit =>
    intro i p hp hi hP _
    have hi1 : (i : Int) < (x.inos.length : Int) := by omega
    have gp : (x.inos.map ino).getD i .undef = .agg [.int .i64 p.kind, .int .i64 p.links, .ro 1 (p.ptrs.map iv)] := gD_map hp
    have e1 := e223 p (hk.ino p (List.mem_of_getElem? hp))
    unfold ino at e1
    unfold dskV
    simp only [XG, L155_2, h155_2, go_sem, seval, bnd_ite, hi1, gp, e1, hP, Int.natCast_nonneg, w_i64 ((i : Int) + 1) (by omega), Bool.not_false, if_true]
    exact .mk (by simp) ⟨rfl, rfl⟩
  case last =>
    intro _
    unfold dskV
    simp only [XG, L155_2, h155_2, go_sem, seval, bnd_ite, Int.lt_irrefl, decide_false]
    exact .mk (by simp) ⟨rfl, rfl, rfl⟩
theorem in155b (x : Dsk) (hk : x.ok) : ∃ r, XL T 0 H155_9 L155_9 ⟨[(1, .ptr 0 0 0), (19, .ro 3 (x.blks.map blk)), (20, .int .i64 x.blks.length), (21, .int .i64 0)], [some (4, [.agg (dskV x)])]⟩ = some r ∧
    (x.blks.all blkOk = true ∧ (r.1 = .exit 2 ∧ lookA r.2.env 1 = .ptr 0 0 0 ∧ r.2.mem = [some (4, [.agg (dskV x)])]) ∨ x.blks.all blkOk = false ∧ (r.1 = .ret ∧ lookA r.2.env 2 = .bool false)) := by
  have hl := hk.blks
  unfold maxLen at hl
  refine XL_all x.blks blkOk (fun i => ⟨[(1, .ptr 0 0 0), (19, .ro 3 (x.blks.map blk)), (20, .int .i64 x.blks.length), (21, .int .i64 (i : Nat))], [some (4, [.agg (dskV x)])]⟩) (fun r => r.1 = .exit 2 ∧ lookA r.2.env 1 = .ptr 0 0 0 ∧ r.2.mem = [some (4, [.agg (dskV x)])]) (fun r => r.1 = .ret ∧ lookA r.2.env 2 = .bool false) ?step ?hit ?last
  case step =>
    intro i p hp hi hP _
    have hi1 : (i : Int) < (x.blks.length : Int) := by omega
    have gp : (x.blks.map blk).getD i .undef = .agg [.bool p.dir, .ro 2 (p.slots.map slt), .str p.text] := gD_map hp
    have e1 := e224 p (hk.blk p (List.mem_of_getElem? hp))
    unfold blk at e1
    unfold dskV
    simp only [XG, L155_9, h155_9, go_sem, seval, bnd_ite, hi1, gp, e1, hP, Int.natCast_nonneg, w_i64 ((i : Int) + 1) (by omega), Bool.not_true, Bool.false_eq_true, if_false]
    first | done | rfl
  case hit =>
    intro i p hp hi hP _
    have hi1 : (i : Int) < (x.blks.length : Int) := by omega
    have gp : (x.blks.map blk).getD i .undef = .agg [.bool p.dir, .ro 2 (p.slots.map slt), .str p.text] := gD_map hp
    have e1 := e224 p (hk.blk p (List.mem_of_getElem? hp))
    unfold blk at e1
    unfold dskV
    simp only [XG, L155_9, h155_9, go_sem, seval, bnd_ite, hi1, gp, e1, hP, Int.natCast_nonneg, w_i64 ((i : Int) + 1) (by omega), Bool.not_false, if_true]
    exact .mk (by simp) ⟨rfl, rfl⟩
  case last =>
    intro _
    unfold dskV
    simp only [XG, L155_9, h155_9, go_sem, seval, bnd_ite, Int.lt_irrefl, decide_false]
    exact .mk (by simp) ⟨rfl, rfl, rfl⟩
theorem e155 (x : Dsk) (hk : x.ok) : E T 155 [dsk x] [] = some (.bool (dskOk x), []) := by
  rw [E_eq t155 (Nat.le_of_ble_eq_true rfl)]
  have c1 : decide ((x.inos.length : Int) = 8) = decide (x.inos.length = 8) := by congr 1; apply propext; omega
  have c2 : decide ((x.blks.length : Int) = 16) = decide (x.blks.length = 16) := by congr 1; apply propext; omega
  obtain ⟨⟨y, e, m⟩, k1, k2⟩ := in155a x hk
  unfold dskOk
  unfold dskV at k1 k2
  rcases k2 with ⟨h, kx, k3, km⟩ | ⟨h, kx, k3⟩
  · simp only at kx k3 km; subst kx; subst km
    obtain ⟨⟨y, e', m⟩, k4, k5⟩ := in155b x hk
    unfold dskV at k4 k5
    rcases k5 with ⟨h', kx, k6, km⟩ | ⟨h', kx, k6⟩
    · simp only at kx k6 km; subst kx; subst km
      have e0 := e225 x.used x.taken
      simp only [dsk, F155, h155_2, h155_9, go_sem, seval, bnd_ite, k1, k3, k4, k6, h, h', c1, c2, e0, Bool.true_and]
    · simp only at kx k6; subst kx
      simp only [dsk, F155, h155_2, h155_9, go_sem, seval, bnd_ite, k1, k3, k4, k6, h, h', Bool.false_and, Bool.and_false]
  · simp only at kx k3; subst kx
    simp only [dsk, F155, h155_2, go_sem, seval, bnd_ite, k1, k3, h, Bool.false_and]
theorem in153a (x : Dsk) (hk : x.ok) : ∃ r, XL T 0 H153_4 L153_4 ⟨[(1, .ptr 0 0 0), (3, .int .i64 0)], [some (4, [.agg (dskV x)])]⟩ = some r ∧
    (x.inos.all inoOk = true ∧ (r.1 = .exit 0 ∧ lookA r.2.env 1 = .ptr 0 0 0 ∧ r.2.mem = [some (4, [.agg (dskV x)])]) ∨ x.inos.all inoOk = false ∧ (r.1 = .ret ∧ lookA r.2.env 2 = .bool false)) := by
  have hl := hk.inos
  unfold maxLen at hl
  refine XL_all x.inos inoOk (fun i => ⟨[(1, .ptr 0 0 0), (3, .int .i64 (i : Nat))], [some (4, [.agg (dskV x)])]⟩) (fun r => r.1 = .exit 0 ∧ lookA r.2.env 1 = .ptr 0 0 0 ∧ r.2.mem = [some (4, [.agg (dskV x)])]) (fun r => r.1 = .ret ∧ lookA r.2.env 2 = .bool false) ?step ?hit ?last
  case step =>
    intro i p hp hi hP _
    have hi1 : (i : Int) < (x.inos.length : Int) := by omega
    have gp : (x.inos.map ino).getD i .undef = .agg [.int .i64 p.kind, .int .i64 p.links, .ro 1 (p.ptrs.map iv)] := gD_map hp
    have e1 := e220 p (hk.ino p (List.mem_of_getElem? hp))
    unfold ino at e1
    unfold dskV
    simp only [XG, L153_4, h153_4, go_sem, seval, bnd_ite, hi1, gp, e1, hP, Int.natCast_nonneg, w_i64 ((i : Int) + 1) (by omega), Bool.not_true, Bool.false_eq_true, if_false]
    first | done | rfl
  case hit =>
    intro i p hp hi hP _
    have hi1 : (i : Int) < (x.inos.length : Int) := by omega
    have gp : (x.inos.map ino).getD i .undef = .agg [.int .i64 p.kind, .int .i64 p.links, .ro 1 (p.ptrs.map iv)] := gD_map hp
    have e1 := e220 p (hk.ino p (List.mem_of_getElem? hp))
    unfold ino at e1
    unfold dskV
    simp only [XG, L153_4, h153_4, go_sem, seval, bnd_ite, hi1, gp, e1, hP, Int.natCast_nonneg, w_i64 ((i : Int) + 1) (by omega), Bool.not_false, if_true]
    exact .mk (by simp) ⟨rfl, rfl⟩
  case last =>
    intro _
    unfold dskV
    simp only [XG, L153_4, h153_4, go_sem, seval, bnd_ite, Int.lt_irrefl, decide_false]
    exact .mk (by simp) ⟨rfl, rfl, rfl⟩
theorem in153b (x : Dsk) (hk : x.ok) : ∃ r, XL T 0 H153_10 L153_10 ⟨[(1, .ptr 0 0 0), (4, .int .i64 0)], [some (4, [.agg (dskV x)])]⟩ = some r ∧
    (x.blks.all blkOk = true ∧ (r.1 = .exit 2) ∨ x.blks.all blkOk = false ∧ (r.1 = .ret ∧ lookA r.2.env 2 = .bool false)) := by
  have hl := hk.blks
  unfold maxLen at hl
  refine XL_all x.blks blkOk (fun i => ⟨[(1, .ptr 0 0 0), (4, .int .i64 (i : Nat))], [some (4, [.agg (dskV x)])]⟩) (fun r => r.1 = .exit 2) (fun r => r.1 = .ret ∧ lookA r.2.env 2 = .bool false) ?step ?hit ?last
  case step =>
    intro i p hp hi hP _
    have hi1 : (i : Int) < (x.blks.length : Int) := by omega
    have gp : (x.blks.map blk).getD i .undef = .agg [.bool p.dir, .ro 2 (p.slots.map slt), .str p.text] := gD_map hp
    have e1 := e221 p (hk.blk p (List.mem_of_getElem? hp))
    unfold blk at e1
    unfold dskV
    simp only [XG, L153_10, h153_10, go_sem, seval, bnd_ite, hi1, gp, e1, hP, Int.natCast_nonneg, w_i64 ((i : Int) + 1) (by omega), Bool.not_true, Bool.false_eq_true, if_false]
    first | done | rfl
  case hit =>
    intro i p hp hi hP _
    have hi1 : (i : Int) < (x.blks.length : Int) := by omega
    have gp : (x.blks.map blk).getD i .undef = .agg [.bool p.dir, .ro 2 (p.slots.map slt), .str p.text] := gD_map hp
    have e1 := e221 p (hk.blk p (List.mem_of_getElem? hp))
    unfold blk at e1
    unfold dskV
    simp only [XG, L153_10, h153_10, go_sem, seval, bnd_ite, hi1, gp, e1, hP, Int.natCast_nonneg, w_i64 ((i : Int) + 1) (by omega), Bool.not_false, if_true]
    exact .mk (by simp) ⟨rfl, rfl⟩
  case last =>
    intro _
    unfold dskV
    simp only [XG, L153_10, h153_10, go_sem, seval, bnd_ite, Int.lt_irrefl, decide_false]
    exact .mk (by simp) rfl
theorem e153 (x : Dsk) (hk : x.ok) : E T 153 [dsk x] [] = some (.bool (dskOk x), []) := by
  rw [E_eq t153 (Nat.le_of_ble_eq_true rfl)]
  have c1 : decide ((x.inos.length : Int) = 8) = decide (x.inos.length = 8) := by congr 1; apply propext; omega
  have c2 : decide ((x.blks.length : Int) = 16) = decide (x.blks.length = 16) := by congr 1; apply propext; omega
  have e0 := e219 x.used x.taken
  by_cases hc : (((decide (x.used.length = 16) && decide (x.taken.length = 8)) && decide (x.inos.length = 8) && decide (x.blks.length = 16))) = true
  case neg =>
    have hr : dskOk x = false := by unfold dskOk; rw [Bool.eq_false_iff.2 hc, Bool.and_false, Bool.and_false]
    have hf : (!(decide (x.used.length = 16) && decide (x.taken.length = 8)) || !decide (x.inos.length = 8) || !decide (x.blks.length = 16)) = true := by
      rw [← Bool.not_and, ← Bool.not_and, Bool.eq_false_iff.2 hc]; rfl
    simp only [dsk, F153, h153_4, go_sem, seval, bnd_ite, e0, c1, c2, hf, hr, if_true]
  have hf : (!(decide (x.used.length = 16) && decide (x.taken.length = 8)) || !decide (x.inos.length = 8) || !decide (x.blks.length = 16)) = false := by
    rw [← Bool.not_and, ← Bool.not_and, hc]; rfl
  obtain ⟨⟨y, e, m⟩, k1, k2⟩ := in153a x hk
  unfold dskOk
  rw [hc, Bool.and_true]
  unfold dskV at k1 k2
  rcases k2 with ⟨h, kx, k3, km⟩ | ⟨h, kx, k3⟩
  · simp only at kx k3 km; subst kx; subst km
    obtain ⟨⟨y, e', m⟩, k4, k5⟩ := in153b x hk
    unfold dskV at k4
    rcases k5 with ⟨h', kx⟩ | ⟨h', kx, k6⟩
    · simp only at kx; subst kx
      simp only [dsk, F153, h153_4, h153_10, go_sem, seval, bnd_ite, k1, k3, k4, h, h', e0, c1, c2, hf, Bool.true_and, Bool.false_eq_true, if_false]
    · simp only at kx k6; subst kx
      simp only [dsk, F153, h153_4, h153_10, go_sem, seval, bnd_ite, k1, k3, k4, k6, h, h', e0, c1, c2, hf, Bool.and_false, Bool.false_eq_true, if_false]
  · simp only at kx k3; subst kx
    simp only [dsk, F153, h153_4, go_sem, seval, bnd_ite, k1, k3, h, e0, c1, c2, hf, Bool.false_and, Bool.false_eq_true, if_false]
end Go.Proofs.Ytaaajjinpppgeaa

/- ImageBlock: copies of blocks. Own work; no condition. -/
set_option linter.unusedVariables false
set_option linter.unusedSimpArgs false
set_option linter.unusedSectionVars false
namespace Go.Proofs.Ytaaajjinpppgeaa
open Go Go.Abs
set_option maxRecDepth 100000
def blk0 : Blk := ⟨false, [], ⟨#[]⟩⟩
theorem e148 (x : Blk) (h : x.sm) : E T 148 [blk x] [] = some (blkO x, []) := by
  rw [E_eqW t148 (Nat.le_of_ble_eq_true rfl)]
  obtain ⟨a, l, b⟩ := x
  cases l with
  | nil => simp only [blk, F148, go_sem, seval, bnd_ite, blkO]
  | cons y ys =>
    have h : (ys.length + 1) * 24 ≤ 140737488355328 := by unfold Blk.sm at h; simp only [List.length_cons] at h; omega
    simp only [blk, F148, slt, go_sem, seval, bnd_ite, h, blkO]
theorem e147 (x : Blk) (h : x.sm) : E T 147 [blk x] [] = some (blkO x, []) := by
  rw [E_eqW t147 (Nat.le_of_ble_eq_true rfl)]
  obtain ⟨a, l, b⟩ := x
  cases l with
  | nil => simp only [blk, F147, go_sem, seval, bnd_ite, blkO]
  | cons y ys =>
    have h : (ys.length + 1) * 24 ≤ 140737488355328 := by unfold Blk.sm at h; simp only [List.length_cons] at h; omega
    simp only [blk, F147, slt, go_sem, seval, bnd_ite, h, blkO]
end Go.Proofs.Ytaaajjinpppgeaa

/- Inodes and blocks of a disk by their numbers, where they are. Own work; no condition. -/
set_option linter.unusedVariables false
set_option linter.unusedSimpArgs false
set_option linter.unusedSectionVars false
namespace Go.Proofs.Ytaaajjinpppgeaa
open Go Go.Abs
set_option maxRecDepth 100000
def ino0 : Ino := ⟨0, 0, []⟩
theorem getD_at {α : Type} {l : List α} {i : Nat} {p z : α} (h : l[i]? = some p) : l.getD i z = p := by simp [List.getD, h]
end Go.Proofs.Ytaaajjinpppgeaa

/- What is right: one that leans, small functions. Own work; no condition. -/
set_option linter.unusedVariables false
set_option linter.unusedSimpArgs false
set_option linter.unusedSectionVars false
namespace Go.Proofs.Ytaaajjinpppgeaa
open Go Go.Abs
set_option maxRecDepth 100000
structure DskOk (x : Dsk) : Prop where
  ino : ∀ p ∈ x.inos, inoOk p = true
  blk : ∀ p ∈ x.blks, blkOk p = true
  used : x.used.length = 16
  taken : x.taken.length = 8
  inos : x.inos.length = 8
  blks : x.blks.length = 16
theorem dskOk_iff {x : Dsk} : dskOk x = true ↔ DskOk x := by
  unfold dskOk
  simp only [Bool.and_eq_true, List.all_eq_true, decide_eq_true_eq]
  exact ⟨fun ⟨a, b, ⟨⟨c, d⟩, e⟩, f⟩ => ⟨a, b, c, d, e, f⟩, fun ⟨a, b, c, d, e, f⟩ => ⟨a, b, ⟨⟨c, d⟩, e⟩, f⟩⟩
structure InoOk (x : Ino) : Prop where
  kind : 0 ≤ x.kind ∧ x.kind ≤ 2
  links : 0 ≤ x.links ∧ x.links ≤ 200
  two : x.ptrs.length = 2
  ptr : ∀ p ∈ x.ptrs, 0 ≤ p ∧ p ≤ 16 ∧ (x.kind = 0 → p = 0)
  none : x.kind = 0 → x.links = 0
theorem inoOk_iff {x : Ino} : inoOk x = true ↔ InoOk x := by
  unfold inoOk ptrOk inside
  simp only [Bool.and_eq_true, List.all_eq_true, decide_eq_true_eq, Bool.not_eq_true', Bool.and_eq_false_iff, decide_eq_false_iff_not, Bool.or_eq_true]
  constructor
  · rintro ⟨a, ⟨⟨b, c⟩, d⟩, e⟩
    refine ⟨b, c, d, fun p hp => ?_, fun h => ?_⟩
    · have := a p hp; omega
    · omega
  · rintro ⟨b, c, d, a, e⟩
    refine ⟨fun p hp => ?_, ⟨⟨b, c⟩, d⟩, ?_⟩
    · have := a p hp; omega
    · omega
theorem blkOk_dir {x : Blk} (h : blkOk x = true) (hd : x.dir = true) : x.slots.length = 4 ∧ x.text = ⟨#[]⟩ ∧ ∀ (i : Nat) s, x.slots[i]? = some s → slotOk x.slots i s = true := by
  unfold blkOk at h
  rw [hd, if_pos rfl] at h
  simp only [Bool.and_eq_true, List.all_eq_true, decide_eq_true_eq] at h
  obtain ⟨h1, h2, h3⟩ := h
  refine ⟨h2, h3, fun i s hs => ?_⟩
  have := h1 (s, i) (List.mem_of_getElem? (i := i) (by rw [List.getElem?_zipIdx, hs]; simp))
  exact this
theorem blkOk_txt {x : Blk} (h : blkOk x = true) (hd : x.dir = false) : x.slots = [] ∧ x.text.size ≤ 16 := by
  rw [blk_nil hd] at h
  simp only [Bool.and_eq_true, decide_eq_true_eq] at h
  exact ⟨List.eq_nil_of_length_eq_zero h.1, h.2⟩
end Go.Proofs.Ytaaajjinpppgeaa

/- The code of some functions, as the evaluator reads it (printed by a program of ours), checked against the program. Own work; no condition. -/
set_option linter.unusedVariables false
set_option linter.unusedSimpArgs false
set_option linter.unusedSectionVars false
namespace Go.Proofs.Ytaaajjinpppgeaa
open Go Go.Abs
set_option maxRecDepth 100000
-- laws.FnExactImageUnit
-- spec.ImageUnit
-- impl.ImageUnit
-- spec.UnitText
-- impl.UnitText
def F200 : EF := ⟨(.seq (.region [(.op (.box 4) [(.tmp 0)] (some 2) true), (.op .mv [(.const (.str ⟨#[]⟩))] (some 4) true), (.op .mv [(.const (.bool false))] (some 5) true)] false) (.seq (.seq (.region [(.op (.loadN 4) [(.tmp 2)] (some 10) true), (.pc (.const (.fn 155 [])) [(.tmp 10)] (some 11) true), (.op .not [(.tmp 11)] (some 12) true), (.op .mv [(.tmp 12)] (some 13) true), (.grp 13 false [(.op .mv [(.tmp 1)] (some 14) true), (.pc (.const (.fn 118 [])) [(.tmp 14)] (some 15) true), (.op .not [(.tmp 15)] (some 16) true)] 16 17 true)] false) (.cond (.tmp 17) (.seq (.region [(.op .mv [(.const (.str ⟨#[]⟩))] (some 4) true), (.op .mv [(.const (.bool false))] (some 5) true)] false) .ret) .skip)) (.seq (.block 0 (.seq (.region [(.op .mv [(.tmp 1)] (some 19) true), (.op (.bin .eql) [(.tmp 19), (.const (.int .i64 0))] (some 20) true), (.op .mv [(.tmp 20)] (some 18) true)] false) (.cond (.tmp 18) (.seq (.region [(.op (.faddr 0) [(.tmp 2)] (some 21) true), (.op (.loadN 2) [(.tmp 21)] (some 22) true), (.pc (.const (.fn 253 [])) [(.tmp 22)] (some 23) true), (.op (.ext 0) [(.tmp 23)] (some 24) true), (.op (.ext 1) [(.tmp 23)] (some 25) true), (.op .mv [(.tmp 24)] (some 4) true), (.op .mv [(.tmp 25)] (some 5) true)] false) .ret) (.seq (.region [(.op .mv [(.tmp 1)] (some 27) true), (.op (.bin .geq) [(.tmp 27), (.const (.int .i64 5))] (some 28) true), (.op .mv [(.tmp 28)] (some 26) true)] false) (.cond (.tmp 26) (.seq (.region [(.op (.faddr 3) [(.tmp 2)] (some 29) true), (.op .load1 [(.tmp 29)] (some 30) true), (.op .mv [(.tmp 1)] (some 31) true), (.op (.bin .sub) [(.tmp 31), (.const (.int .i64 5))] (some 32) true), (.op (.iaddr 3) [(.tmp 30), (.tmp 32)] (some 33) true), (.op (.loadN 3) [(.tmp 33)] (some 34) true), (.pc (.const (.fn 254 [])) [(.tmp 34)] (some 35) true), (.op (.ext 0) [(.tmp 35)] (some 36) true), (.op (.ext 1) [(.tmp 35)] (some 37) true), (.op .mv [(.tmp 36)] (some 4) true), (.op .mv [(.tmp 37)] (some 5) true)] false) .ret) .skip))))) (.seq (.region [(.op (.faddr 2) [(.tmp 2)] (some 39) true), (.op .load1 [(.tmp 39)] (some 40) true), (.op .mv [(.tmp 1)] (some 41) true), (.op (.bin .mul) [(.const (.int .i64 2)), (.tmp 41)] (some 42) true), (.op (.bin .sub) [(.tmp 42), (.const (.int .i64 2))] (some 43) true), (.op (.iaddr 3) [(.tmp 40), (.tmp 43)] (some 44) true), (.op (.loadN 3) [(.tmp 44)] (some 45) true), (.pc (.const (.fn 255 [])) [(.tmp 45)] (some 46) true), (.op .mv [(.tmp 46)] (some 38) true), (.op (.ext 0) [(.tmp 38)] (some 47) true), (.op (.ext 1) [(.tmp 38)] (some 48) true), (.op .mv [(.tmp 47)] (some 6) true), (.op .mv [(.tmp 48)] (some 7) true)] false) (.seq (.region [(.op (.faddr 2) [(.tmp 2)] (some 50) true), (.op .load1 [(.tmp 50)] (some 51) true), (.op .mv [(.tmp 1)] (some 52) true), (.op (.bin .mul) [(.const (.int .i64 2)), (.tmp 52)] (some 53) true), (.op (.bin .sub) [(.tmp 53), (.const (.int .i64 1))] (some 54) true), (.op (.iaddr 3) [(.tmp 51), (.tmp 54)] (some 55) true), (.op (.loadN 3) [(.tmp 55)] (some 56) true), (.pc (.const (.fn 255 [])) [(.tmp 56)] (some 57) true), (.op .mv [(.tmp 57)] (some 49) true), (.op (.ext 0) [(.tmp 49)] (some 58) true), (.op (.ext 1) [(.tmp 49)] (some 59) true), (.op .mv [(.tmp 58)] (some 8) true), (.op .mv [(.tmp 59)] (some 9) true)] false) (.seq (.region [(.op .mv [(.tmp 6)] (some 60) true), (.op .mv [(.tmp 8)] (some 61) true), (.op (.bin .add) [(.tmp 60), (.tmp 61)] (some 62) true), (.op .mv [(.tmp 62)] (some 4) true), (.op .mv [(.const (.bool true))] (some 5) true)] false) .ret)))))), [(.tmp 4), (.tmp 5)], 63, .one, none⟩
theorem t200 : T 200 = some F200 := tab Try.func200 (by kernel_rfl) rfl
-- spec.l07Unit
def F248 : EF := ⟨(.seq (.region [(.op (.box 4) [(.tmp 0)] (some 2) true), (.op .mv [(.const (.str ⟨#[]⟩))] (some 4) true)] false) (.seq (.seq (.region [(.op .mv [(.tmp 1)] (some 13) true), (.op (.bin .eql) [(.tmp 13), (.const (.int .i64 0))] (some 14) true)] false) (.cond (.tmp 14) (.seq (.region [(.op (.faddr 0) [(.tmp 2)] (some 16) true), (.op (.loadN 2) [(.tmp 16)] (some 17) true), (.pc (.const (.fn 277 [])) [(.tmp 17)] (some 18) true), (.op .mv [(.tmp 18)] (some 15) true), (.op (.ext 0) [(.tmp 15)] (some 19) true), (.op (.ext 1) [(.tmp 15)] (some 20) true), (.op .mv [(.tmp 19)] (some 5) true), (.op .mv [(.tmp 20)] (some 6) true)] false) (.seq (.region [(.op .mv [(.tmp 5)] (some 21) true), (.op .mv [(.tmp 21)] (some 4) true)] false) .ret)) .skip)) (.seq (.seq (.region [(.op .mv [(.tmp 1)] (some 22) true), (.op (.bin .leq) [(.tmp 22), (.const (.int .i64 4))] (some 23) true)] false) (.cond (.tmp 23) (.seq (.region [(.op (.faddr 2) [(.tmp 2)] (some 25) true), (.op .load1 [(.tmp 25)] (some 26) true), (.op .mv [(.tmp 1)] (some 27) true), (.op (.bin .mul) [(.const (.int .i64 2)), (.tmp 27)] (some 28) true), (.op (.bin .sub) [(.tmp 28), (.const (.int .i64 2))] (some 29) true), (.op (.iaddr 3) [(.tmp 26), (.tmp 29)] (some 30) true), (.op (.loadN 3) [(.tmp 30)] (some 31) true), (.pc (.const (.fn 278 [])) [(.tmp 31)] (some 32) true), (.op .mv [(.tmp 32)] (some 24) true), (.op (.ext 0) [(.tmp 24)] (some 33) true), (.op (.ext 1) [(.tmp 24)] (some 34) true), (.op .mv [(.tmp 33)] (some 7) true), (.op .mv [(.tmp 34)] (some 8) true)] false) (.seq (.region [(.op (.faddr 2) [(.tmp 2)] (some 36) true), (.op .load1 [(.tmp 36)] (some 37) true), (.op .mv [(.tmp 1)] (some 38) true), (.op (.bin .mul) [(.const (.int .i64 2)), (.tmp 38)] (some 39) true), (.op (.bin .sub) [(.tmp 39), (.const (.int .i64 1))] (some 40) true), (.op (.iaddr 3) [(.tmp 37), (.tmp 40)] (some 41) true), (.op (.loadN 3) [(.tmp 41)] (some 42) true), (.pc (.const (.fn 278 [])) [(.tmp 42)] (some 43) true), (.op .mv [(.tmp 43)] (some 35) true), (.op (.ext 0) [(.tmp 35)] (some 44) true), (.op (.ext 1) [(.tmp 35)] (some 45) true), (.op .mv [(.tmp 44)] (some 9) true), (.op .mv [(.tmp 45)] (some 10) true)] false) (.seq (.region [(.op .mv [(.tmp 7)] (some 46) true), (.op .mv [(.tmp 9)] (some 47) true), (.op (.bin .add) [(.tmp 46), (.tmp 47)] (some 48) true), (.op .mv [(.tmp 48)] (some 4) true)] false) .ret))) .skip)) (.seq (.region [(.op (.faddr 3) [(.tmp 2)] (some 50) true), (.op .load1 [(.tmp 50)] (some 51) true), (.op .mv [(.tmp 1)] (some 52) true), (.op (.bin .sub) [(.tmp 52), (.const (.int .i64 5))] (some 53) true), (.op (.iaddr 3) [(.tmp 51), (.tmp 53)] (some 54) true), (.op (.loadN 3) [(.tmp 54)] (some 55) true), (.pc (.const (.fn 279 [])) [(.tmp 55)] (some 56) true), (.op .mv [(.tmp 56)] (some 49) true), (.op (.ext 0) [(.tmp 49)] (some 57) true), (.op (.ext 1) [(.tmp 49)] (some 58) true), (.op .mv [(.tmp 57)] (some 11) true), (.op .mv [(.tmp 58)] (some 12) true)] false) (.seq (.region [(.op .mv [(.tmp 11)] (some 59) true), (.op .mv [(.tmp 59)] (some 4) true)] false) .ret))))), [(.tmp 4)], 60, .one, none⟩
theorem t248 : T 248 = some F248 := tab Try.func248 (by kernel_rfl) rfl
-- impl.BitsText
def F253 : EF := ⟨(.seq (.region [(.op (.box 2) [(.tmp 0)] (some 1) true), (.op .mv [(.const (.str ⟨#[]⟩))] (some 2) true), (.op .mv [(.const (.bool false))] (some 3) true)] false) (.seq (.seq (.region [(.op (.loadN 2) [(.tmp 1)] (some 4) true), (.pc (.const (.fn 225 [])) [(.tmp 4)] (some 5) true), (.op .not [(.tmp 5)] (some 6) true)] false) (.cond (.tmp 6) (.seq (.region [(.op .mv [(.const (.str ⟨#[]⟩))] (some 2) true), (.op .mv [(.const (.bool false))] (some 3) true)] false) .ret) .skip)) (.seq (.region [(.op (.faddr 0) [(.tmp 1)] (some 7) false), (.op .load1 [(.tmp 7)] (some 8) false), (.op (.slice 1 false true) [(.tmp 8), (.const (.int .i64 8))] (some 9) false), (.pc (.const (.fn 281 [])) [(.tmp 9)] (some 10) false), (.op (.faddr 0) [(.tmp 1)] (some 11) false), (.op .load1 [(.tmp 11)] (some 12) false), (.op (.slice 1 true false) [(.tmp 12), (.const (.int .i64 8))] (some 13) false), (.pc (.const (.fn 281 [])) [(.tmp 13)] (some 14) false), (.op (.faddr 1) [(.tmp 1)] (some 15) false), (.op .load1 [(.tmp 15)] (some 16) false), (.pc (.const (.fn 281 [])) [(.tmp 16)] (some 17) true), (.op (.bslice 1 3 (.int .i64 0) [0, 1, 2]) [(.tmp 10), (.tmp 14), (.tmp 17)] (some 18) true), (.pc (.const (.fn 280 [])) [(.tmp 18)] (some 19) true), (.op .mv [(.tmp 19)] (some 2) true), (.op .mv [(.const (.bool true))] (some 3) true)] true) .ret))), [(.tmp 2), (.tmp 3)], 20, .one, none⟩
theorem t253 : T 253 = some F253 := tab Try.func253 (by kernel_rfl) rfl
def H254_7 : List Vw := [.tidy [4, 19, 20, 21] [(4, none), (19, none), (20, none), (21, none)]]
theorem h254_7 (b : Nat) (s : St) : vwL b H254_7 s = vwL b [.tidy [4, 19, 20, 21] [(4, none), (19, none), (20, none), (21, none)]] s := rfl
def L254_7 : EC := (.seq (.region [(.op (.bin .lss) [(.tmp 21), (.tmp 20)] (some 22) true)] false) (.seq (.cond (.tmp 22) .skip (.exit 0)) (.seq (.block 1 (.seq (.region [(.op (.iaddr 2) [(.tmp 19), (.tmp 21)] (some 23) true), (.op (.loadN 2) [(.tmp 23)] (some 24) true), (.op (.alloc (.agg [(.str ⟨#[]⟩), (.int .i64 0)])) [] (some 6) true), (.op (.storeN 2) [(.tmp 6), (.tmp 24)] none true)] false) (.seq (.region [(.op (.faddr 0) [(.tmp 6)] (some 26) true), (.op .load1 [(.tmp 26)] (some 27) true), (.pc (.const (.fn 282 [])) [(.tmp 27)] (some 28) true), (.op .mv [(.tmp 28)] (some 25) true), (.op (.ext 0) [(.tmp 25)] (some 29) true), (.op (.ext 1) [(.tmp 25)] (some 30) true), (.op .mv [(.tmp 29)] (some 7) true), (.op .mv [(.tmp 30)] (some 8) true)] false) (.region [(.op .mv [(.tmp 4)] (some 31) true), (.op (.faddr 1) [(.tmp 6)] (some 32) true), (.op .load1 [(.tmp 32)] (some 33) true), (.op (.bslice 1 1 (.int .i64 0) [0]) [(.tmp 33)] (some 34) true), (.pc (.const (.fn 280 [])) [(.tmp 34)] (some 35) true), (.op .mv [(.tmp 7)] (some 36) true), (.op (.bin .add) [(.tmp 35), (.tmp 36)] (some 37) true), (.op (.bin .add) [(.tmp 31), (.tmp 37)] (some 38) true), (.op .mv [(.tmp 38)] (some 4) true)] false)))) (.region [(.op (.bin .add) [(.tmp 21), (.const (.int .i64 1))] (some 39) true), (.op .mv [(.tmp 39)] (some 21) true)] false))))
-- impl.BlockText
def F254 : EF := ⟨(.seq (.region [(.op (.box 3) [(.tmp 0)] (some 1) true), (.op .mv [(.const (.str ⟨#[]⟩))] (some 2) true), (.op .mv [(.const (.bool false))] (some 3) true)] false) (.seq (.seq (.region [(.op (.loadN 3) [(.tmp 1)] (some 9) true), (.pc (.const (.fn 224 [])) [(.tmp 9)] (some 10) true), (.op .not [(.tmp 10)] (some 11) true)] false) (.cond (.tmp 11) (.seq (.region [(.op .mv [(.const (.str ⟨#[]⟩))] (some 2) true), (.op .mv [(.const (.bool false))] (some 3) true)] false) .ret) .skip)) (.seq (.seq (.region [(.op (.faddr 0) [(.tmp 1)] (some 12) true), (.op .load1 [(.tmp 12)] (some 13) true), (.op .not [(.tmp 13)] (some 14) true)] false) (.cond (.tmp 14) (.seq (.region [(.op (.faddr 2) [(.tmp 1)] (some 15) true), (.op .load1 [(.tmp 15)] (some 16) true), (.op (.bin .add) [(.const (.str ⟨#[116]⟩)), (.tmp 16)] (some 17) true), (.op .mv [(.tmp 17)] (some 2) true), (.op .mv [(.const (.bool true))] (some 3) true)] false) .ret) .skip)) (.seq (.region [(.op .mv [(.const (.str ⟨#[100]⟩))] (some 4) true)] false) (.seq (.seq (.region [(.op (.faddr 1) [(.tmp 1)] (some 18) true), (.op .load1 [(.tmp 18)] (some 19) true), (.op .len [(.tmp 19)] (some 20) true), (.op .mv [(.const (.int .i64 0))] (some 21) true)] false) (.block 0 (.loop H254_7 L254_7))) (.seq (.region [(.op .mv [(.tmp 4)] (some 40) true), (.op .mv [(.tmp 40)] (some 2) true), (.op .mv [(.const (.bool true))] (some 3) true)] false) .ret)))))), [(.tmp 2), (.tmp 3)], 41, .one, none⟩
theorem t254 : T 254 = some F254 := tab Try.func254 (by kernel_rfl) rfl
-- impl.InodeText
def F255 : EF := ⟨(.seq (.region [(.op (.box 3) [(.tmp 0)] (some 1) true), (.op .mv [(.const (.str ⟨#[]⟩))] (some 2) true), (.op .mv [(.const (.bool false))] (some 3) true)] false) (.seq (.seq (.region [(.op (.loadN 3) [(.tmp 1)] (some 4) true), (.pc (.const (.fn 223 [])) [(.tmp 4)] (some 5) true), (.op .not [(.tmp 5)] (some 6) true)] false) (.cond (.tmp 6) (.seq (.region [(.op .mv [(.const (.str ⟨#[]⟩))] (some 2) true), (.op .mv [(.const (.bool false))] (some 3) true)] false) .ret) .skip)) (.seq (.region [(.op (.faddr 0) [(.tmp 1)] (some 7) false), (.op .load1 [(.tmp 7)] (some 8) false), (.op (.faddr 1) [(.tmp 1)] (some 9) false), (.op .load1 [(.tmp 9)] (some 10) false), (.op (.bslice 1 2 (.int .i64 0) [0, 1]) [(.tmp 8), (.tmp 10)] (some 11) false), (.pc (.const (.fn 280 [])) [(.tmp 11)] (some 12) false), (.op (.faddr 2) [(.tmp 1)] (some 13) false), (.op .load1 [(.tmp 13)] (some 14) false), (.pc (.const (.fn 280 [])) [(.tmp 14)] (some 15) true), (.op (.bin .add) [(.tmp 12), (.tmp 15)] (some 16) true), (.op .mv [(.tmp 16)] (some 2) true), (.op .mv [(.const (.bool true))] (some 3) true)] true) .ret))), [(.tmp 2), (.tmp 3)], 17, .one, none⟩
theorem t255 : T 255 = some F255 := tab Try.func255 (by kernel_rfl) rfl
-- spec.BitsText
def F277 : EF := ⟨(.seq (.region [(.op (.box 2) [(.tmp 0)] (some 1) true), (.op .mv [(.const (.str ⟨#[]⟩))] (some 2) true), (.op .mv [(.const (.bool false))] (some 3) true)] false) (.seq (.seq (.region [(.op (.loadN 2) [(.tmp 1)] (some 4) true), (.pc (.const (.fn 219 [])) [(.tmp 4)] (some 5) true), (.op .not [(.tmp 5)] (some 6) true)] false) (.cond (.tmp 6) (.seq (.region [(.op .mv [(.const (.str ⟨#[]⟩))] (some 2) true), (.op .mv [(.const (.bool false))] (some 3) true)] false) .ret) .skip)) (.seq (.region [(.op (.faddr 0) [(.tmp 1)] (some 7) false), (.op .load1 [(.tmp 7)] (some 8) false), (.op (.slice 1 false true) [(.tmp 8), (.const (.int .i64 8))] (some 9) false), (.pc (.const (.fn 302 [])) [(.tmp 9)] (some 10) false), (.op (.faddr 0) [(.tmp 1)] (some 11) false), (.op .load1 [(.tmp 11)] (some 12) false), (.op (.slice 1 true false) [(.tmp 12), (.const (.int .i64 8))] (some 13) false), (.pc (.const (.fn 302 [])) [(.tmp 13)] (some 14) false), (.op (.faddr 1) [(.tmp 1)] (some 15) false), (.op .load1 [(.tmp 15)] (some 16) false), (.pc (.const (.fn 302 [])) [(.tmp 16)] (some 17) true), (.op (.bslice 1 3 (.int .u8 0) [0, 1, 2]) [(.tmp 10), (.tmp 14), (.tmp 17)] (some 18) true), (.op .b2s [(.tmp 18)] (some 19) true), (.op .mv [(.tmp 19)] (some 2) true), (.op .mv [(.const (.bool true))] (some 3) true)] true) .ret))), [(.tmp 2), (.tmp 3)], 20, .one, none⟩
theorem t277 : T 277 = some F277 := tab Try.func277 (by kernel_rfl) rfl
-- spec.InodeText
def F278 : EF := ⟨(.seq (.region [(.op (.box 3) [(.tmp 0)] (some 1) true), (.op .mv [(.const (.str ⟨#[]⟩))] (some 2) true), (.op .mv [(.const (.bool false))] (some 3) true)] false) (.seq (.seq (.region [(.op (.loadN 3) [(.tmp 1)] (some 4) true), (.pc (.const (.fn 220 [])) [(.tmp 4)] (some 5) true), (.op .not [(.tmp 5)] (some 6) true)] false) (.cond (.tmp 6) (.seq (.region [(.op .mv [(.const (.str ⟨#[]⟩))] (some 2) true), (.op .mv [(.const (.bool false))] (some 3) true)] false) .ret) .skip)) (.seq (.region [(.op (.faddr 0) [(.tmp 1)] (some 7) false), (.op .load1 [(.tmp 7)] (some 8) false), (.op (.conv .u8) [(.tmp 8)] (some 9) false), (.op (.faddr 1) [(.tmp 1)] (some 10) false), (.op .load1 [(.tmp 10)] (some 11) false), (.op (.conv .u8) [(.tmp 11)] (some 12) false), (.op (.faddr 2) [(.tmp 1)] (some 13) false), (.op .load1 [(.tmp 13)] (some 14) false), (.op (.iaddr 1) [(.tmp 14), (.const (.int .i64 0))] (some 15) false), (.op .load1 [(.tmp 15)] (some 16) false), (.op (.conv .u8) [(.tmp 16)] (some 17) false), (.op (.faddr 2) [(.tmp 1)] (some 18) false), (.op .load1 [(.tmp 18)] (some 19) false), (.op (.iaddr 1) [(.tmp 19), (.const (.int .i64 1))] (some 20) false), (.op .load1 [(.tmp 20)] (some 21) false), (.op (.conv .u8) [(.tmp 21)] (some 22) false), (.op (.bslice 1 4 (.int .u8 0) [0, 1, 2, 3]) [(.tmp 9), (.tmp 12), (.tmp 17), (.tmp 22)] (some 23) true), (.op .b2s [(.tmp 23)] (some 24) true), (.op .mv [(.tmp 24)] (some 2) true), (.op .mv [(.const (.bool true))] (some 3) true)] true) .ret))), [(.tmp 2), (.tmp 3)], 25, .one, none⟩
theorem t278 : T 278 = some F278 := tab Try.func278 (by kernel_rfl) rfl
def H279_7 : List Vw := [.tidy [1, 4, 5] [(1, none), (4, none), (5, none)]]
theorem h279_7 (b : Nat) (s : St) : vwL b H279_7 s = vwL b [.tidy [1, 4, 5] [(1, none), (4, none), (5, none)]] s := rfl
def L279_7 : EC := (.seq (.seq (.region [(.op .mv [(.tmp 5)] (some 15) true), (.op (.bin .lss) [(.tmp 15), (.const (.int .i64 4))] (some 16) true)] false) (.cond (.tmp 16) .skip (.exit 0))) (.seq (.block 1 (.region [(.op .mv [(.tmp 4)] (some 19) false), (.op (.faddr 1) [(.tmp 1)] (some 20) false), (.op .load1 [(.tmp 20)] (some 21) false), (.op .mv [(.tmp 5)] (some 22) false), (.op (.iaddr 2) [(.tmp 21), (.tmp 22)] (some 23) false), (.op (.faddr 1) [(.tmp 23)] (some 24) false), (.op .load1 [(.tmp 24)] (some 25) false), (.op (.conv .u8) [(.tmp 25)] (some 26) false), (.op (.bslice 1 1 (.int .u8 0) [0]) [(.tmp 26)] (some 27) false), (.op .b2s [(.tmp 27)] (some 28) false), (.op (.bin .add) [(.tmp 19), (.tmp 28)] (some 29) false), (.op (.faddr 1) [(.tmp 1)] (some 30) false), (.op .load1 [(.tmp 30)] (some 31) false), (.op .mv [(.tmp 5)] (some 32) false), (.op (.iaddr 2) [(.tmp 31), (.tmp 32)] (some 33) false), (.op (.faddr 0) [(.tmp 33)] (some 34) false), (.op .load1 [(.tmp 34)] (some 35) false), (.op .lenStr [(.tmp 35)] (some 36) false), (.pc (.const (.fn 303 [])) [(.tmp 36)] (some 37) false), (.op (.bin .add) [(.tmp 29), (.tmp 37)] (some 38) false), (.op (.faddr 1) [(.tmp 1)] (some 39) false), (.op .load1 [(.tmp 39)] (some 40) false), (.op .mv [(.tmp 5)] (some 41) false), (.op (.iaddr 2) [(.tmp 40), (.tmp 41)] (some 42) false), (.op (.faddr 0) [(.tmp 42)] (some 43) false), (.op .load1 [(.tmp 43)] (some 44) false), (.op (.bin .add) [(.tmp 38), (.tmp 44)] (some 45) true), (.op .mv [(.tmp 45)] (some 4) true)] true)) (.region [(.op .mv [(.tmp 5)] (some 17) true), (.op (.bin .add) [(.tmp 17), (.const (.int .i64 1))] (some 18) true), (.op .mv [(.tmp 18)] (some 5) true)] false)))
-- spec.BlockText
def F279 : EF := ⟨(.seq (.region [(.op (.box 3) [(.tmp 0)] (some 1) true), (.op .mv [(.const (.str ⟨#[]⟩))] (some 2) true), (.op .mv [(.const (.bool false))] (some 3) true)] false) (.seq (.seq (.region [(.op (.loadN 3) [(.tmp 1)] (some 6) true), (.pc (.const (.fn 221 [])) [(.tmp 6)] (some 7) true), (.op .not [(.tmp 7)] (some 8) true)] false) (.cond (.tmp 8) (.seq (.region [(.op .mv [(.const (.str ⟨#[]⟩))] (some 2) true), (.op .mv [(.const (.bool false))] (some 3) true)] false) .ret) .skip)) (.seq (.seq (.region [(.op (.faddr 0) [(.tmp 1)] (some 9) true), (.op .load1 [(.tmp 9)] (some 10) true), (.op .not [(.tmp 10)] (some 11) true)] false) (.cond (.tmp 11) (.seq (.region [(.op (.faddr 2) [(.tmp 1)] (some 12) true), (.op .load1 [(.tmp 12)] (some 13) true), (.op (.bin .add) [(.const (.str ⟨#[116]⟩)), (.tmp 13)] (some 14) true), (.op .mv [(.tmp 14)] (some 2) true), (.op .mv [(.const (.bool true))] (some 3) true)] false) .ret) .skip)) (.seq (.region [(.op .mv [(.const (.str ⟨#[100]⟩))] (some 4) true)] false) (.seq (.seq (.region [(.op .mv [(.const (.int .i64 0))] (some 5) true)] false) (.block 0 (.loop H279_7 L279_7))) (.seq (.region [(.op .mv [(.tmp 4)] (some 46) true), (.op .mv [(.tmp 46)] (some 2) true), (.op .mv [(.const (.bool true))] (some 3) true)] false) .ret)))))), [(.tmp 2), (.tmp 3)], 47, .one, none⟩
theorem t279 : T 279 = some F279 := tab Try.func279 (by kernel_rfl) rfl
def H280_3 : List Vw := [.lay 3 1, .tidy [3, 7, 8, 9] [(3, none), (7, none), (8, none), (9, none)]]
theorem h280_3 (b : Nat) (s : St) : vwL b H280_3 s = vwL b [.lay 3 1, .tidy [3, 7, 8, 9] [(3, none), (7, none), (8, none), (9, none)]] s := rfl
def L280_3 : EC := (.seq (.region [(.op (.bin .lss) [(.tmp 9), (.tmp 8)] (some 10) true)] false) (.seq (.cond (.tmp 10) .skip (.exit 0)) (.seq (.block 1 (.seq (.region [(.op (.iaddr 1) [(.tmp 7), (.tmp 9)] (some 11) true), (.op .load1 [(.tmp 11)] (some 12) true), (.op .mv [(.tmp 12)] (some 5) true)] false) (.region [(.op .mv [(.tmp 3)] (some 13) true), (.op .mv [(.tmp 5)] (some 14) true), (.op (.conv .u8) [(.tmp 14)] (some 15) true), (.op (.bslice 1 1 (.int .u8 0) [0]) [(.tmp 15)] (some 16) true), (.op (.append 1 1) [(.tmp 13), (.tmp 16)] (some 17) true), (.op .mv [(.tmp 17)] (some 3) true)] false))) (.region [(.op (.bin .add) [(.tmp 9), (.const (.int .i64 1))] (some 18) true), (.op .mv [(.tmp 18)] (some 9) true)] false))))
-- impl.byteTexts
def F280 : EF := ⟨(.seq (.region [(.op .mv [(.const (.str ⟨#[]⟩))] (some 2) true)] false) (.seq (.region [(.op (.bslice 1 0 (.int .u8 0) []) [] (some 6) true), (.op .mv [(.tmp 6)] (some 3) true)] false) (.seq (.seq (.region [(.op .mv [(.tmp 0)] (some 7) true), (.op .len [(.tmp 7)] (some 8) true), (.op .mv [(.const (.int .i64 0))] (some 9) true)] false) (.block 0 (.loop H280_3 L280_3))) (.seq (.region [(.op .mv [(.tmp 3)] (some 19) true), (.op .b2s [(.tmp 19)] (some 20) true), (.op .mv [(.tmp 20)] (some 2) true)] false) .ret)))), [(.tmp 2)], 21, .one, none⟩
theorem t280 : T 280 = some F280 := tab Try.func280 (by kernel_rfl) rfl
def H281_3 : List Vw := [.tidy [3, 6, 7, 8] [(3, none), (6, none), (7, none), (8, none)]]
theorem h281_3 (b : Nat) (s : St) : vwL b H281_3 s = vwL b [.tidy [3, 6, 7, 8] [(3, none), (6, none), (7, none), (8, none)]] s := rfl
def L281_3 : EC := (.seq (.region [(.op (.bin .lss) [(.tmp 8), (.tmp 7)] (some 9) true)] false) (.seq (.cond (.tmp 9) .skip (.exit 0)) (.seq (.block 1 (.seq (.region [(.op .mv [(.tmp 8)] (some 10) true), (.op (.iaddr 1) [(.tmp 6), (.tmp 8)] (some 11) true), (.op .load1 [(.tmp 11)] (some 12) true), (.op .mv [(.tmp 10)] (some 4) true), (.op .mv [(.tmp 12)] (some 5) true)] false) (.seq (.region [(.op .mv [(.tmp 5)] (some 13) true)] false) (.cond (.tmp 13) (.region [(.op .mv [(.tmp 3)] (some 14) true), (.op .mv [(.tmp 4)] (some 15) true), (.op (.bin .shl) [(.const (.int .i64 1)), (.tmp 15)] (some 16) true), (.op (.bin .or) [(.tmp 14), (.tmp 16)] (some 17) true), (.op .mv [(.tmp 17)] (some 3) true)] false) .skip)))) (.region [(.op (.bin .add) [(.tmp 8), (.const (.int .i64 1))] (some 18) true), (.op .mv [(.tmp 18)] (some 8) true)] false))))
-- impl.packed
def F281 : EF := ⟨(.seq (.region [(.op .mv [(.const (.int .i64 0))] (some 2) true)] false) (.seq (.region [(.op .mv [(.const (.int .i64 0))] (some 3) true)] false) (.seq (.seq (.region [(.op .mv [(.tmp 0)] (some 6) true), (.op .len [(.tmp 6)] (some 7) true), (.op .mv [(.const (.int .i64 0))] (some 8) true)] false) (.block 0 (.loop H281_3 L281_3))) (.seq (.region [(.op .mv [(.tmp 3)] (some 19) true), (.op .mv [(.tmp 19)] (some 2) true)] false) .ret)))), [(.tmp 2)], 20, .one, none⟩
theorem t281 : T 281 = some F281 := tab Try.func281 (by kernel_rfl) rfl
-- impl.ShortText
def F282 : EF := ⟨(.seq (.region [(.op .mv [(.const (.str ⟨#[]⟩))] (some 2) true), (.op .mv [(.const (.bool false))] (some 3) true)] false) (.seq (.seq (.region [(.op .mv [(.tmp 0)] (some 6) true), (.op .lenStr [(.tmp 6)] (some 7) true), (.op (.bin .gtr) [(.tmp 7), (.const (.int .i64 20000))] (some 8) true)] false) (.cond (.tmp 8) (.seq (.region [(.op .mv [(.const (.str ⟨#[]⟩))] (some 2) true), (.op .mv [(.const (.bool false))] (some 3) true)] false) .ret) .skip)) (.seq (.region [(.op .mv [(.tmp 0)] (some 10) true), (.op .lenStr [(.tmp 10)] (some 11) true), (.pc (.const (.fn 304 [])) [(.tmp 11)] (some 12) true), (.op .mv [(.tmp 12)] (some 9) true), (.op (.ext 0) [(.tmp 9)] (some 13) true), (.op (.ext 1) [(.tmp 9)] (some 14) true), (.op .mv [(.tmp 13)] (some 4) true), (.op .mv [(.tmp 14)] (some 5) true)] false) (.seq (.region [(.op .mv [(.tmp 4)] (some 15) true), (.op .mv [(.tmp 0)] (some 16) true), (.op (.bin .add) [(.tmp 15), (.tmp 16)] (some 17) true), (.op .mv [(.tmp 17)] (some 2) true), (.op .mv [(.const (.bool true))] (some 3) true)] false) .ret)))), [(.tmp 2), (.tmp 3)], 18, .one, none⟩
theorem t282 : T 282 = some F282 := tab Try.func282 (by kernel_rfl) rfl
def H302_4 : List Vw := [.tidy [0, 3, 4, 5] [(0, none), (3, none), (4, none), (5, none)]]
theorem h302_4 (b : Nat) (s : St) : vwL b H302_4 s = vwL b [.tidy [0, 3, 4, 5] [(0, none), (3, none), (4, none), (5, none)]] s := rfl
def L302_4 : EC := (.seq (.seq (.region [(.op .mv [(.tmp 5)] (some 6) true), (.op .mv [(.tmp 0)] (some 7) true), (.op .len [(.tmp 7)] (some 8) true), (.op (.bin .lss) [(.tmp 6), (.tmp 8)] (some 9) true)] false) (.cond (.tmp 9) .skip (.exit 0))) (.seq (.block 1 (.seq (.seq (.region [(.op .mv [(.tmp 0)] (some 12) true), (.op .mv [(.tmp 5)] (some 13) true), (.op (.iaddr 1) [(.tmp 12), (.tmp 13)] (some 14) true), (.op .load1 [(.tmp 14)] (some 15) true)] false) (.cond (.tmp 15) (.region [(.op .mv [(.tmp 3)] (some 16) true), (.op .mv [(.tmp 4)] (some 17) true), (.op (.bin .add) [(.tmp 16), (.tmp 17)] (some 18) true), (.op .mv [(.tmp 18)] (some 3) true)] false) .skip)) (.region [(.op .mv [(.tmp 4)] (some 19) true), (.op (.bin .mul) [(.const (.int .i64 2)), (.tmp 19)] (some 20) true), (.op .mv [(.tmp 20)] (some 4) true)] false))) (.region [(.op .mv [(.tmp 5)] (some 10) true), (.op (.bin .add) [(.tmp 10), (.const (.int .i64 1))] (some 11) true), (.op .mv [(.tmp 11)] (some 5) true)] false)))
-- spec.l05Byte
def F302 : EF := ⟨(.seq (.region [(.op .mv [(.const (.int .u8 0))] (some 2) true)] false) (.seq (.region [(.op .mv [(.const (.int .i64 0))] (some 3) true)] false) (.seq (.region [(.op .mv [(.const (.int .i64 1))] (some 4) true)] false) (.seq (.seq (.region [(.op .mv [(.const (.int .i64 0))] (some 5) true)] false) (.block 0 (.loop H302_4 L302_4))) (.seq (.region [(.op .mv [(.tmp 3)] (some 21) true), (.op (.conv .u8) [(.tmp 21)] (some 22) true), (.op .mv [(.tmp 22)] (some 2) true)] false) .ret))))), [(.tmp 2)], 23, .one, none⟩
theorem t302 : T 302 = some F302 := tab Try.func302 (by kernel_rfl) rfl
def H303_2 : List Vw := [.lay 3 1, .tidy [0, 3] [(0, none), (3, none)]]
theorem h303_2 (b : Nat) (s : St) : vwL b H303_2 s = vwL b [.lay 3 1, .tidy [0, 3] [(0, none), (3, none)]] s := rfl
def L303_2 : EC := (.seq (.seq (.region [(.op .mv [(.tmp 0)] (some 5) true), (.op (.bin .gtr) [(.tmp 5), (.const (.int .i64 127))] (some 6) true)] false) (.cond (.tmp 6) .skip (.exit 0))) (.block 1 (.seq (.region [(.op .mv [(.tmp 3)] (some 7) true), (.op .mv [(.tmp 0)] (some 8) true), (.op (.bin .rem) [(.tmp 8), (.const (.int .i64 128))] (some 9) true), (.op (.bin .add) [(.tmp 9), (.const (.int .i64 128))] (some 10) true), (.op (.conv .u8) [(.tmp 10)] (some 11) true), (.op (.bslice 1 1 (.int .u8 0) [0]) [(.tmp 11)] (some 12) true), (.op (.append 1 1) [(.tmp 7), (.tmp 12)] (some 13) true), (.op .mv [(.tmp 13)] (some 3) true)] false) (.region [(.op .mv [(.tmp 0)] (some 14) true), (.op (.bin .quo) [(.tmp 14), (.const (.int .i64 128))] (some 15) true), (.op .mv [(.tmp 15)] (some 0) true)] false))))
-- spec.l01Var
def F303 : EF := ⟨(.seq (.region [(.op .mv [(.const (.str ⟨#[]⟩))] (some 2) true)] false) (.seq (.region [(.op (.bslice 1 0 (.int .u8 0) []) [] (some 4) true), (.op .mv [(.tmp 4)] (some 3) true)] false) (.seq (.block 0 (.loop H303_2 L303_2)) (.seq (.region [(.op .mv [(.tmp 3)] (some 16) true), (.op .mv [(.tmp 0)] (some 17) true), (.op (.conv .u8) [(.tmp 17)] (some 18) true), (.op (.bslice 1 1 (.int .u8 0) [0]) [(.tmp 18)] (some 19) true), (.op (.append 1 1) [(.tmp 16), (.tmp 19)] (some 20) true), (.op .b2s [(.tmp 20)] (some 21) true), (.op .mv [(.tmp 21)] (some 2) true)] false) .ret)))), [(.tmp 2)], 22, .one, none⟩
theorem t303 : T 303 = some F303 := tab Try.func303 (by kernel_rfl) rfl
def H304_4 : List Vw := [.lay 4 1, .tidy [0, 4] [(0, none), (4, none)]]
theorem h304_4 (b : Nat) (s : St) : vwL b H304_4 s = vwL b [.lay 4 1, .tidy [0, 4] [(0, none), (4, none)]] s := rfl
def L304_4 : EC := (.seq (.seq (.region [(.op .mv [(.tmp 0)] (some 9) true), (.op (.bin .gtr) [(.tmp 9), (.const (.int .i64 127))] (some 10) true)] false) (.cond (.tmp 10) .skip (.exit 0))) (.block 1 (.seq (.region [(.op .mv [(.tmp 4)] (some 11) true), (.op .mv [(.tmp 0)] (some 12) true), (.op (.bin .rem) [(.tmp 12), (.const (.int .i64 128))] (some 13) true), (.op (.bin .add) [(.tmp 13), (.const (.int .i64 128))] (some 14) true), (.op (.conv .u8) [(.tmp 14)] (some 15) true), (.op (.bslice 1 1 (.int .u8 0) [0]) [(.tmp 15)] (some 16) true), (.op (.append 1 1) [(.tmp 11), (.tmp 16)] (some 17) true), (.op .mv [(.tmp 17)] (some 4) true)] false) (.region [(.op .mv [(.tmp 0)] (some 18) true), (.op (.bin .quo) [(.tmp 18), (.const (.int .i64 128))] (some 19) true), (.op .mv [(.tmp 19)] (some 0) true)] false))))
-- impl.VarText
def F304 : EF := ⟨(.seq (.region [(.op .mv [(.const (.str ⟨#[]⟩))] (some 2) true), (.op .mv [(.const (.bool false))] (some 3) true)] false) (.seq (.seq (.region [(.op .mv [(.tmp 0)] (some 5) true), (.pc (.const (.fn 117 [])) [(.tmp 5), (.const (.int .i64 0)), (.const (.int .i64 1000000000))] (some 6) true), (.op .not [(.tmp 6)] (some 7) true)] false) (.cond (.tmp 7) (.seq (.region [(.op .mv [(.const (.str ⟨#[]⟩))] (some 2) true), (.op .mv [(.const (.bool false))] (some 3) true)] false) .ret) .skip)) (.seq (.region [(.op (.bslice 1 0 (.int .u8 0) []) [] (some 8) true), (.op .mv [(.tmp 8)] (some 4) true)] false) (.seq (.block 0 (.loop H304_4 L304_4)) (.seq (.region [(.op .mv [(.tmp 4)] (some 20) true), (.op .mv [(.tmp 0)] (some 21) true), (.op (.conv .u8) [(.tmp 21)] (some 22) true), (.op (.bslice 1 1 (.int .u8 0) [0]) [(.tmp 22)] (some 23) true), (.op (.append 1 1) [(.tmp 20), (.tmp 23)] (some 24) true), (.op .b2s [(.tmp 24)] (some 25) true), (.op .mv [(.tmp 25)] (some 2) true), (.op .mv [(.const (.bool true))] (some 3) true)] false) .ret))))), [(.tmp 2), (.tmp 3)], 26, .one, none⟩
theorem t304 : T 304 = some F304 := tab Try.func304 (by kernel_rfl) rfl
end Go.Proofs.Ytaaajjinpppgeaa

/- The code of some functions, as the evaluator reads it (printed by a program of ours), checked against the program. Own work; no condition. -/
set_option linter.unusedVariables false
set_option linter.unusedSimpArgs false
set_option linter.unusedSectionVars false
namespace Go.Proofs.Ytaaajjinpppgeaa
open Go Go.Abs
set_option maxRecDepth 100000
-- laws.FnExactPutDep
-- laws.FnExactTakeBlock
-- laws.FnExactTakeIno
-- spec.PutDep
-- impl.PutDep
-- spec.TakeBlock
-- impl.TakeBlock
-- spec.TakeIno
-- impl.TakeIno
def H183_3 : List Vw := [.opn 3 none none 4 1, .opn 3 none none 5 11, .tidy [1, 2, 3, 4] [(1, none), (2, none), (3, none), (4, none), (3, some 5)]]
def L183_3 : EC := (.seq (.seq (.region [(.op .mv [(.tmp 4)] (some 16) true), (.op (.faddr 5) [(.tmp 1)] (some 17) true), (.op .load1 [(.tmp 17)] (some 18) true), (.op .len [(.tmp 18)] (some 19) true), (.op (.bin .lss) [(.tmp 16), (.tmp 19)] (some 20) true)] false) (.cond (.tmp 20) .skip (.exit 0))) (.seq (.block 1 (.seq (.region [(.op (.faddr 5) [(.tmp 1)] (some 23) true), (.op .load1 [(.tmp 23)] (some 24) true), (.op .mv [(.tmp 4)] (some 25) true), (.op (.iaddr 11) [(.tmp 24), (.tmp 25)] (some 26) true), (.op (.loadN 11) [(.tmp 26)] (some 27) true), (.op (.alloc (.agg [(.int .i64 0), (.int .i64 0), (.int .i64 0), (.int .i64 0), (.int .i64 0), (.int .i64 0), (.str ⟨#[]⟩), (.bool false), (.bool false), (.int .i64 0), .nil])) [] (some 5) true), (.op (.storeN 11) [(.tmp 5), (.tmp 27)] none true)] false) (.seq (.region [(.op (.bslice 1 0 (.int .i64 0) []) [] (some 28) true), (.op (.faddr 10) [(.tmp 5)] (some 29) true), (.op .load1 [(.tmp 29)] (some 30) true), (.op (.append 1 8) [(.tmp 28), (.tmp 30)] (some 31) true), (.op (.faddr 10) [(.tmp 5)] (some 32) true), (.op .store1 [(.tmp 32), (.tmp 31)] none true)] false) (.view [.opn 5 none none 10 1] (.region [(.op (.faddr 5) [(.tmp 3)] (some 33) true), (.op .load1 [(.tmp 33)] (some 34) true), (.op (.loadN 11) [(.tmp 5)] (some 35) true), (.op (.bslice 11 1 (.agg [(.int .i64 0), (.int .i64 0), (.int .i64 0), (.int .i64 0), (.int .i64 0), (.int .i64 0), (.str ⟨#[]⟩), (.bool false), (.bool false), (.int .i64 0), .nil]) [0]) [(.tmp 35)] (some 36) true), (.op (.append 11 104) [(.tmp 34), (.tmp 36)] (some 37) true), (.op (.faddr 5) [(.tmp 3)] (some 38) true), (.op .store1 [(.tmp 38), (.tmp 37)] none true)] false))))) (.region [(.op .mv [(.tmp 4)] (some 21) true), (.op (.bin .add) [(.tmp 21), (.const (.int .i64 1))] (some 22) true), (.op .mv [(.tmp 22)] (some 4) true)] false)))
-- spec.l08Copy
def F183 : EF := ⟨(.seq (.region [(.op (.box 7) [(.tmp 0)] (some 1) true), (.op (.alloc (.agg [.nil, .nil, .nil, .nil, .nil, .nil, (.int .i64 0)])) [] (some 2) true)] false) (.seq (.region [(.op (.faddr 0) [(.tmp 1)] (some 6) false), (.op (.loadN 4) [(.tmp 6)] (some 7) false), (.pc (.const (.fn 158 [])) [(.tmp 7)] (some 8) false), (.op (.bslice 1 0 (.bool false) []) [] (some 9) false), (.op (.faddr 4) [(.tmp 1)] (some 10) false), (.op .load1 [(.tmp 10)] (some 11) false), (.op (.append 1 1) [(.tmp 9), (.tmp 11)] (some 12) false), (.op (.faddr 6) [(.tmp 1)] (some 13) false), (.op .load1 [(.tmp 13)] (some 14) false), (.op (.build [.nil, .nil, .nil, .nil, .nil, .nil, (.int .i64 0)] [(0, 4), (4, 1), (6, 1)]) [(.tmp 8), (.tmp 12), (.tmp 14)] (some 15) false), (.op (.alloc (.agg [.nil, .nil, .nil, .nil, .nil, .nil, (.int .i64 0)])) [] (some 3) false), (.op (.storeN 7) [(.tmp 3), (.tmp 15)] none true)] true) (.seq (.seq (.region [(.op .mv [(.const (.int .i64 0))] (some 4) true)] false) (.block 0 (.loop H183_3 L183_3))) (.seq (.view [.opn 3 none none 0 1, .opn 3 none none 1 1, .opn 3 none none 2 3, .opn 3 none none 3 3, .opn 3 none none 4 1, .opn 3 none none 5 11] (.region [(.op (.loadN 7) [(.tmp 3)] (some 39) true), (.op (.storeN 7) [(.tmp 2), (.tmp 39)] none true)] false)) .ret)))), [(.cell 2 (.loadN 7))], 40, (.agg [.one, .one, .one, .one, .one, .row 11 .one, .one]), none⟩
theorem t183 : T 183 = some F183 := tab Try.func183 (by kernel_rfl) rfl
-- impl.copyMem
-- (*impl.Mem).put
-- spec.FirstFree
-- spec.l08Mark
-- (*impl.Mem).take
-- impl.copyDeps
-- impl.mayPut
-- impl.copyDep
-- impl.FirstFree
-- (*impl.Mem).mark
end Go.Proofs.Ytaaajjinpppgeaa

