/- Part 5 of the texts of a claim, joined by a program of ours (Fc, Fu, Ft, Oa, Ob, Oc, Od). No condition. -/
import Derived.Test.YtaaajjinpppgeaaJ20d
set_option linter.unusedVariables false
set_option linter.unusedSimpArgs false
set_option linter.unusedSectionVars false
/- The code of some functions, as the evaluator reads it (printed by a program of ours), checked against the program. Own work; no condition. -/
set_option linter.unusedVariables false
set_option linter.unusedSimpArgs false
set_option linter.unusedSectionVars false
namespace Go.Proofs.Ytaaajjinpppgeaa
open Go Go.Abs
set_option maxRecDepth 100000
-- laws.FnExactDropDep
def F20 : EF := ⟨(.seq (.region [(.op (.box 7) [(.tmp 0)] (some 2) true), (.op .mv [(.const (.bool false))] (some 4) true)] false) (.seq (.region [(.op .mv [(.const (.int .i64 1048576))] (some 5) true)] false) (.seq (.region [(.op (.loadN 7) [(.tmp 2)] (some 13) true), (.op .mv [(.tmp 5)] (some 14) true), (.pc (.const (.fn 43 [])) [(.tmp 13), (.tmp 14)] (some 15) true), (.op .mv [(.tmp 15)] (some 5) true)] false) (.seq (.seq (.region [(.op .mv [(.tmp 5)] (some 16) true), (.op (.bin .lss) [(.tmp 16), (.const (.int .i64 0))] (some 17) true)] false) (.cond (.tmp 17) (.seq (.region [(.op .mv [(.const (.bool true))] (some 4) true)] false) .ret) .skip)) (.seq (.region [(.op (.loadN 7) [(.tmp 2)] (some 18) true), (.pc (.const (.fn 45 [])) [(.tmp 18)] (some 19) true), (.op .mv [(.tmp 1)] (some 20) true), (.pc (.const (.fn 91 [])) [(.tmp 19), (.tmp 20)] (some 21) true), (.op (.alloc (.agg [.nil, .nil, .nil, .nil, .nil, .nil, (.int .i64 0)])) [] (some 6) true), (.op (.storeN 7) [(.tmp 6), (.tmp 21)] none true)] false) (.seq (.region [(.op (.loadN 7) [(.tmp 2)] (some 22) true), (.pc (.const (.fn 45 [])) [(.tmp 22)] (some 23) true), (.op (.alloc (.agg [.nil, .nil, .nil, .nil, .nil, .nil, (.int .i64 0)])) [] (some 7) true), (.op (.storeN 7) [(.tmp 7), (.tmp 23)] none true)] false) (.seq (.region [(.op (.loadN 7) [(.tmp 7)] (some 24) true), (.op .mv [(.tmp 1)] (some 25) true), (.pc (.const (.fn 92 [])) [(.tmp 24), (.tmp 25)] (some 26) true), (.op (.alloc (.agg [.nil, .nil, .nil, .nil, .nil, .nil, (.int .i64 0)])) [] (some 8) true), (.op (.storeN 7) [(.tmp 8), (.tmp 26)] none true)] false) (.seq (.seq (.region [(.op (.loadN 7) [(.tmp 8)] (some 27) true), (.op (.loadN 7) [(.tmp 6)] (some 28) true), (.pc (.const (.fn 47 [])) [(.tmp 27), (.tmp 28)] (some 29) true), (.op .not [(.tmp 29)] (some 30) true)] false) (.cond (.tmp 30) (.seq (.region [(.op .mv [(.const (.bool false))] (some 4) true)] false) .ret) .skip)) (.seq (.seq (.region [(.op (.loadN 7) [(.tmp 7)] (some 31) false), (.op (.loadN 7) [(.tmp 2)] (some 32) false), (.pc (.const (.fn 45 [])) [(.tmp 32)] (some 33) false), (.pc (.const (.fn 47 [])) [(.tmp 31), (.tmp 33)] (some 34) true), (.op .not [(.tmp 34)] (some 35) true)] true) (.cond (.tmp 35) (.seq (.region [(.op .mv [(.const (.bool false))] (some 4) true)] false) .ret) .skip)) (.seq (.region [(.op .mv [(.const (.int .i64 1))] (some 9) true)] false) (.seq (.region [(.op (.loadN 7) [(.tmp 7)] (some 36) true), (.op .mv [(.tmp 9)] (some 37) true), (.sc (.const (.fn 51 [])) [(.tmp 36), (.tmp 37)] (some 38) true), (.op .mv [(.tmp 38)] (some 9) true)] false) (.seq (.seq (.region [(.op .mv [(.tmp 9)] (some 39) true), (.op (.bin .lss) [(.tmp 39), (.const (.int .i64 0))] (some 40) true), (.op .mv [(.tmp 40)] (some 41) true), (.grp 41 false [(.op (.loadN 7) [(.tmp 8)] (some 42) true), (.op (.loadN 7) [(.tmp 6)] (some 43) true), (.pc (.const (.fn 47 [])) [(.tmp 42), (.tmp 43)] (some 44) true), (.op .not [(.tmp 44)] (some 45) true)] 45 46 true)] false) (.cond (.tmp 46) (.seq (.region [(.op .mv [(.const (.bool false))] (some 4) true)] false) .ret) .skip)) (.seq (.region [(.op .mv [(.const (.int .i64 1))] (some 10) true)] false) (.seq (.region [(.op (.loadN 7) [(.tmp 8)] (some 47) true), (.op .mv [(.tmp 10)] (some 48) true), (.sc (.const (.fn 51 [])) [(.tmp 47), (.tmp 48)] (some 49) true), (.op .mv [(.tmp 49)] (some 10) true)] false) (.seq (.region [(.op .mv [(.const (.int .i64 1))] (some 11) true)] false) (.seq (.region [(.op (.loadN 7) [(.tmp 8)] (some 50) true), (.op .mv [(.tmp 11)] (some 51) true), (.pc (.const (.fn 64 [])) [(.tmp 50), (.tmp 51)] (some 52) true), (.op .mv [(.tmp 52)] (some 11) true)] false) (.seq (.seq (.region [(.op .mv [(.tmp 11)] (some 53) true), (.op (.bin .lss) [(.tmp 53), (.const (.int .i64 0))] (some 54) true)] false) (.cond (.tmp 54) (.seq (.region [(.op .mv [(.const (.bool false))] (some 4) true)] false) .ret) .skip)) (.seq (.seq (.region [(.op .mv [(.tmp 11)] (some 55) true), (.op .mv [(.tmp 10)] (some 56) true), (.op (.bin .neq) [(.tmp 55), (.tmp 56)] (some 57) true)] false) (.cond (.tmp 57) (.seq (.region [(.op .mv [(.const (.bool false))] (some 4) true)] false) .ret) .skip)) (.seq (.region [(.op (.loadN 7) [(.tmp 2)] (some 58) true), (.pc (.const (.fn 45 [])) [(.tmp 58)] (some 59) true), (.op .mv [(.tmp 1)] (some 60) true), (.pc (.const (.fn 92 [])) [(.tmp 59), (.tmp 60)] (some 61) true), (.op (.alloc (.agg [.nil, .nil, .nil, .nil, .nil, .nil, (.int .i64 0)])) [] (some 12) true), (.op (.storeN 7) [(.tmp 12), (.tmp 61)] none true)] false) (.seq (.seq (.region [(.op (.loadN 7) [(.tmp 12)] (some 62) true), (.op (.loadN 7) [(.tmp 6)] (some 63) true), (.pc (.const (.fn 47 [])) [(.tmp 62), (.tmp 63)] (some 64) true), (.op .not [(.tmp 64)] (some 65) true)] false) (.cond (.tmp 65) (.seq (.region [(.op .mv [(.const (.bool false))] (some 4) true)] false) .ret) .skip)) (.seq (.region [(.op .mv [(.const (.int .i64 1))] (some 11) true)] false) (.seq (.region [(.op (.loadN 7) [(.tmp 8)] (some 66) true), (.op .mv [(.tmp 11)] (some 67) true), (.pc (.const (.fn 64 [])) [(.tmp 66), (.tmp 67)] (some 68) true), (.op .mv [(.tmp 68)] (some 11) true)] false) (.seq (.seq (.region [(.op .mv [(.tmp 11)] (some 69) true), (.op (.bin .lss) [(.tmp 69), (.const (.int .i64 0))] (some 70) true)] false) (.cond (.tmp 70) (.seq (.region [(.op .mv [(.const (.bool false))] (some 4) true)] false) .ret) .skip)) (.seq (.seq (.region [(.op .mv [(.tmp 11)] (some 71) true), (.op .mv [(.tmp 10)] (some 72) true), (.op (.bin .neq) [(.tmp 71), (.tmp 72)] (some 73) true)] false) (.cond (.tmp 73) (.seq (.region [(.op .mv [(.const (.bool false))] (some 4) true)] false) .ret) .skip)) (.seq (.region [(.op .mv [(.const (.bool true))] (some 4) true)] false) .ret))))))))))))))))))))))))), [(.tmp 4)], 74, .one, none⟩
theorem t20 : T 20 = some F20 := tab Try.func20 (by kernel_rfl) rfl
def H91_4 : List Vw := [.lay 6 11, .tidy [1, 4, 5, 6, 7] [(1, none), (4, none), (5, none), (6, none), (7, none), (5, some 5)]]
theorem h91_4 (b : Nat) (s : St) : vwL b H91_4 s = vwL b [.lay 6 11, .tidy [1, 4, 5, 6, 7] [(1, none), (4, none), (5, none), (6, none), (7, none), (5, some 5)]] s := rfl
def L91_4 : EC := (.seq (.seq (.region [(.op .mv [(.tmp 7)] (some 11) true), (.op (.faddr 5) [(.tmp 5)] (some 12) true), (.op .load1 [(.tmp 12)] (some 13) true), (.op .len [(.tmp 13)] (some 14) true), (.op (.bin .lss) [(.tmp 11), (.tmp 14)] (some 15) true)] false) (.cond (.tmp 15) .skip (.exit 0))) (.seq (.block 1 (.seq (.region [(.op (.faddr 5) [(.tmp 5)] (some 18) true), (.op .load1 [(.tmp 18)] (some 19) true), (.op .mv [(.tmp 7)] (some 20) true), (.op (.iaddr 11) [(.tmp 19), (.tmp 20)] (some 21) true), (.op (.faddr 0) [(.tmp 21)] (some 22) true), (.op .load1 [(.tmp 22)] (some 23) true), (.op .mv [(.tmp 1)] (some 24) true), (.op (.bin .neq) [(.tmp 23), (.tmp 24)] (some 25) true)] false) (.cond (.tmp 25) (.view [.opn 5 (some 5) (some (7, 0)) 10 1] (.region [(.op .mv [(.tmp 6)] (some 26) true), (.op (.faddr 5) [(.tmp 5)] (some 27) true), (.op .load1 [(.tmp 27)] (some 28) true), (.op .mv [(.tmp 7)] (some 29) true), (.op (.iaddr 11) [(.tmp 28), (.tmp 29)] (some 30) true), (.op (.loadN 11) [(.tmp 30)] (some 31) true), (.op (.bslice 11 1 (.agg [(.int .i64 0), (.int .i64 0), (.int .i64 0), (.int .i64 0), (.int .i64 0), (.int .i64 0), (.str ⟨#[]⟩), (.bool false), (.bool false), (.int .i64 0), .nil]) [0]) [(.tmp 31)] (some 32) true), (.op (.append 11 104) [(.tmp 26), (.tmp 32)] (some 33) true), (.op .mv [(.tmp 33)] (some 6) true)] false)) .skip))) (.view [.fgt 5 (some 5) (some (7, 0)) 10] (.region [(.op .mv [(.tmp 7)] (some 16) true), (.op (.bin .add) [(.tmp 16), (.const (.int .i64 1))] (some 17) true), (.op .mv [(.tmp 17)] (some 7) true)] false))))
-- spec.DropDep
def F91 : EF := ⟨(.seq (.region [(.op (.box 7) [(.tmp 0)] (some 2) true), (.op (.alloc (.agg [.nil, .nil, .nil, .nil, .nil, .nil, (.int .i64 0)])) [] (some 4) true)] false) (.seq (.region [(.op (.loadN 7) [(.tmp 2)] (some 8) true), (.pc (.const (.fn 183 [])) [(.tmp 8)] (some 9) true), (.op (.alloc (.agg [.nil, .nil, .nil, .nil, .nil, .nil, (.int .i64 0)])) [] (some 5) true), (.op (.storeN 7) [(.tmp 5), (.tmp 9)] none true)] false) (.seq (.region [(.op (.bslice 11 0 (.agg [(.int .i64 0), (.int .i64 0), (.int .i64 0), (.int .i64 0), (.int .i64 0), (.int .i64 0), (.str ⟨#[]⟩), (.bool false), (.bool false), (.int .i64 0), .nil]) []) [] (some 10) true), (.op .mv [(.tmp 10)] (some 6) true)] false) (.seq (.seq (.region [(.op .mv [(.const (.int .i64 0))] (some 7) true)] false) (.block 0 (.loop H91_4 L91_4))) (.seq (.region [(.op .mv [(.tmp 6)] (some 34) true), (.op (.faddr 5) [(.tmp 5)] (some 35) true), (.op .store1 [(.tmp 35), (.tmp 34)] none true)] false) (.seq (.view [.opn 5 none none 0 1, .opn 5 none none 1 1, .opn 5 none none 2 3, .opn 5 none none 3 3, .opn 5 none none 4 1, .opn 5 none none 5 11] (.region [(.op (.loadN 7) [(.tmp 5)] (some 36) true), (.op (.storeN 7) [(.tmp 4), (.tmp 36)] none true)] false)) .ret)))))), [(.cell 4 (.loadN 7))], 37, (.agg [.one, .one, .one, .one, .one, .row 11 .one, .one]), none⟩
theorem t91 : T 91 = some F91 := tab Try.func91 (by kernel_rfl) rfl
-- impl.DropDep
def F92 : EF := ⟨(.seq (.region [(.op (.box 7) [(.tmp 0)] (some 2) true), (.op (.alloc (.agg [.nil, .nil, .nil, .nil, .nil, .nil, (.int .i64 0)])) [] (some 4) true)] false) (.seq (.region [(.op (.loadN 7) [(.tmp 2)] (some 6) true), (.pc (.const (.fn 185 [])) [(.tmp 6)] (some 7) true), (.op (.alloc (.agg [.nil, .nil, .nil, .nil, .nil, .nil, (.int .i64 0)])) [] (some 5) true), (.op (.storeN 7) [(.tmp 5), (.tmp 7)] none true)] false) (.seq (.region [(.op .mv [(.tmp 1)] (some 8) true), (.sc (.const (.fn 187 [])) [(.tmp 5), (.tmp 8)] (some 9) true)] false) (.seq (.region [(.op (.loadN 7) [(.tmp 5)] (some 10) true), (.op (.storeN 7) [(.tmp 4), (.tmp 10)] none true)] false) .ret)))), [(.cell 4 (.loadN 7))], 11, .one, none⟩
theorem t92 : T 92 = some F92 := tab Try.func92 (by kernel_rfl) rfl
-- (*impl.Mem).drop
def F187 : EF := ⟨(.seq (.region [(.op (.box 1) [(.tmp 1)] (some 3) true)] false) (.region [(.op .mv [(.tmp 0)] (some 4) true), (.op .mv [(.tmp 0)] (some 5) true), (.op .nilck [(.tmp 5)] (some 6) true), (.op (.faddr 5) [(.tmp 6)] (some 7) true), (.op .load1 [(.tmp 7)] (some 8) true), (.op (.mkfn 243) [(.tmp 3)] (some 9) true), (.sc (.const (.fn 242 [])) [(.tmp 8), (.tmp 9)] (some 10) true), (.op .nilck [(.tmp 4)] (some 11) true), (.op (.faddr 5) [(.tmp 11)] (some 12) true), (.op .store1 [(.tmp 12), (.tmp 10)] none true)] false)), [], 13, .one, none⟩
theorem t187 : T 187 = some F187 := tab Try.func187 (by kernel_rfl) rfl
def H242_5 : List Vw := [.tidy [0, 1, 5, 6] [(0, none), (1, none), (5, none), (6, none)]]
theorem h242_5 (b : Nat) (s : St) : vwL b H242_5 s = vwL b [.tidy [0, 1, 5, 6] [(0, none), (1, none), (5, none), (6, none)]] s := rfl
def L242_5 : EC := (.seq (.seq (.region [(.op .mv [(.tmp 6)] (some 16) true), (.op .mv [(.tmp 0)] (some 17) true), (.op .len [(.tmp 17)] (some 18) true), (.op (.bin .lss) [(.tmp 16), (.tmp 18)] (some 19) true)] false) (.cond (.tmp 19) .skip (.exit 0))) (.seq (.block 1 (.seq (.view [.opn 0 none (some (6, 0)) 10 1] (.region [(.op .mv [(.tmp 0)] (some 22) true), (.op .mv [(.tmp 6)] (some 23) true), (.op (.iaddr 11) [(.tmp 22), (.tmp 23)] (some 24) true), (.op (.loadN 11) [(.tmp 24)] (some 25) true), (.op (.alloc (.agg [(.int .i64 0), (.int .i64 0), (.int .i64 0), (.int .i64 0), (.int .i64 0), (.int .i64 0), (.str ⟨#[]⟩), (.bool false), (.bool false), (.int .i64 0), .nil])) [] (some 7) true), (.op (.storeN 11) [(.tmp 7), (.tmp 25)] none true)] false)) (.seq (.region [(.op .mv [(.tmp 1)] (some 26) true), (.op (.loadN 11) [(.tmp 7)] (some 27) true), (.pc (.tmp 26) [(.tmp 27)] (some 28) true), (.op .not [(.tmp 28)] (some 29) true)] false) (.cond (.tmp 29) (.seq (.region [(.op .mv [(.tmp 0)] (some 30) true), (.op .mv [(.tmp 5)] (some 31) true), (.op (.loadN 11) [(.tmp 7)] (some 32) true), (.op (.iaddr 11) [(.tmp 30), (.tmp 31)] (some 33) true), (.op (.storeN 11) [(.tmp 33), (.tmp 32)] none true)] false) (.region [(.op .mv [(.tmp 5)] (some 34) true), (.op (.bin .add) [(.tmp 34), (.const (.int .i64 1))] (some 35) true), (.op .mv [(.tmp 35)] (some 5) true)] false)) .skip)))) (.view [.fgt 0 none (some (6, 0)) 10] (.region [(.op .mv [(.tmp 6)] (some 20) true), (.op (.bin .add) [(.tmp 20), (.const (.int .i64 1))] (some 21) true), (.op .mv [(.tmp 21)] (some 6) true)] false))))
-- slices.DeleteFunc[[]impl.Dep,impl.Dep]
def F242 : EF := ⟨(.seq (.region [(.op .mv [(.const .nil)] (some 4) true)] false) (.seq (.region [(.op .mv [(.tmp 0)] (some 8) true), (.op .mv [(.tmp 1)] (some 9) true), (.pc (.const (.fn 231 [])) [(.tmp 8), (.tmp 9)] (some 10) true), (.op .mv [(.tmp 10)] (some 5) true)] false) (.seq (.seq (.region [(.op .mv [(.tmp 5)] (some 11) true), (.op (.bin .eql) [(.tmp 11), (.const (.int .i64 (-1)))] (some 12) true)] false) (.cond (.tmp 12) (.seq (.region [(.op .mv [(.tmp 0)] (some 13) true), (.op .mv [(.tmp 13)] (some 4) true)] false) .ret) .skip)) (.seq (.seq (.region [(.op .mv [(.tmp 5)] (some 14) true), (.op (.bin .add) [(.tmp 14), (.const (.int .i64 1))] (some 15) true), (.op .mv [(.tmp 15)] (some 6) true)] false) (.block 0 (.loop H242_5 L242_5))) (.seq (.region [(.op .mv [(.tmp 0)] (some 36) true), (.op .mv [(.tmp 5)] (some 37) true), (.op (.slice 11 true false) [(.tmp 36), (.tmp 37)] (some 38) true), (.op (.clear 11 (.agg [(.int .i64 0), (.int .i64 0), (.int .i64 0), (.int .i64 0), (.int .i64 0), (.int .i64 0), (.str ⟨#[]⟩), (.bool false), (.bool false), (.int .i64 0), .nil])) [(.tmp 38)] none true)] false) (.seq (.region [(.op .mv [(.tmp 0)] (some 39) true), (.op .mv [(.tmp 5)] (some 40) true), (.op (.slice 11 false true) [(.tmp 39), (.tmp 40)] (some 41) true), (.op .mv [(.tmp 41)] (some 4) true)] false) .ret)))))), [(.tmp 4)], 42, .one, none⟩
theorem t242 : T 242 = some F242 := tab Try.func242 (by kernel_rfl) rfl
-- (*impl.Mem).drop$1
def F243 : EF := ⟨(.seq (.region [(.op (.box 11) [(.tmp 0)] (some 2) true), (.op .mv [(.const (.bool false))] (some 3) true)] false) (.seq (.region [(.op (.faddr 0) [(.tmp 2)] (some 4) true), (.op .load1 [(.tmp 4)] (some 5) true), (.op .load1 [(.tmp 1)] (some 6) true), (.op (.bin .eql) [(.tmp 5), (.tmp 6)] (some 7) true), (.op .mv [(.tmp 7)] (some 3) true)] false) .ret)), [(.tmp 3)], 8, .one, none⟩
theorem t243 : T 243 = some F243 := tab Try.func243 (by kernel_rfl) rfl
end Go.Proofs.Ytaaajjinpppgeaa
/- The code of some functions, as the evaluator reads it (printed by a program of ours), checked against the program. Own work; no condition. -/
set_option linter.unusedVariables false
set_option linter.unusedSimpArgs false
set_option linter.unusedSectionVars false
namespace Go.Proofs.Ytaaajjinpppgeaa
open Go Go.Abs
set_option maxRecDepth 100000
def H154_5 : List Vw := [.tidy [1, 2, 5, 6] [(1, none), (2, none), (5, none), (6, none)]]
theorem h154_5 (b : Nat) (s : St) : vwL b H154_5 s = vwL b [.tidy [1, 2, 5, 6] [(1, none), (2, none), (5, none), (6, none)]] s := rfl
def L154_5 : EC := (.seq (.seq (.region [(.op .mv [(.tmp 6)] (some 59) true), (.op (.faddr 10) [(.tmp 5)] (some 60) true), (.op .load1 [(.tmp 60)] (some 61) true), (.op .len [(.tmp 61)] (some 62) true), (.op (.bin .lss) [(.tmp 59), (.tmp 62)] (some 63) true)] false) (.cond (.tmp 63) .skip (.exit 0))) (.seq (.block 1 (.seq (.region [(.op (.faddr 10) [(.tmp 5)] (some 66) true), (.op .load1 [(.tmp 66)] (some 67) true), (.op .mv [(.tmp 6)] (some 68) true), (.op (.iaddr 1) [(.tmp 67), (.tmp 68)] (some 69) true), (.op .load1 [(.tmp 69)] (some 70) true), (.pc (.const (.fn 116 [])) [(.tmp 70), (.const (.int .i64 1)), (.const (.int .i64 16))] (some 71) true), (.op .not [(.tmp 71)] (some 72) true)] false) (.cond (.tmp 72) (.seq (.region [(.op .mv [(.const (.bool false))] (some 4) true)] false) .ret) .skip))) (.region [(.op .mv [(.tmp 6)] (some 64) true), (.op (.bin .add) [(.tmp 64), (.const (.int .i64 1))] (some 65) true), (.op .mv [(.tmp 65)] (some 6) true)] false)))
def H154_11 : List Vw := [.tidy [1, 2, 5, 7] [(1, none), (2, none), (5, none), (7, none)]]
theorem h154_11 (b : Nat) (s : St) : vwL b H154_11 s = vwL b [.tidy [1, 2, 5, 7] [(1, none), (2, none), (5, none), (7, none)]] s := rfl
def L154_11 : EC := (.seq (.seq (.region [(.op .mv [(.tmp 7)] (some 73) true), (.op .mv [(.tmp 1)] (some 74) true), (.op (.bin .lss) [(.tmp 73), (.tmp 74)] (some 75) true)] false) (.cond (.tmp 75) .skip (.exit 2))) (.seq (.block 3 (.seq (.region [(.op (.faddr 5) [(.tmp 2)] (some 78) false), (.op .load1 [(.tmp 78)] (some 79) false), (.op .mv [(.tmp 7)] (some 80) false), (.op (.iaddr 11) [(.tmp 79), (.tmp 80)] (some 81) false), (.op (.faddr 0) [(.tmp 81)] (some 82) false), (.op .load1 [(.tmp 82)] (some 83) false), (.op (.faddr 0) [(.tmp 5)] (some 84) false), (.op .load1 [(.tmp 84)] (some 85) false), (.op (.bin .eql) [(.tmp 83), (.tmp 85)] (some 86) true)] true) (.cond (.tmp 86) (.seq (.region [(.op .mv [(.const (.bool false))] (some 4) true)] false) .ret) .skip))) (.region [(.op .mv [(.tmp 7)] (some 76) true), (.op (.bin .add) [(.tmp 76), (.const (.int .i64 1))] (some 77) true), (.op .mv [(.tmp 77)] (some 7) true)] false)))
-- spec.l08Dep
def F154 : EF := ⟨(.seq (.region [(.op (.box 7) [(.tmp 0)] (some 2) true), (.op .mv [(.const (.bool false))] (some 4) true)] false) (.seq (.region [(.op (.faddr 5) [(.tmp 2)] (some 8) true), (.op .load1 [(.tmp 8)] (some 9) true), (.op .mv [(.tmp 1)] (some 10) true), (.op (.iaddr 11) [(.tmp 9), (.tmp 10)] (some 11) true), (.op (.loadN 11) [(.tmp 11)] (some 12) true), (.op (.alloc (.agg [(.int .i64 0), (.int .i64 0), (.int .i64 0), (.int .i64 0), (.int .i64 0), (.int .i64 0), (.str ⟨#[]⟩), (.bool false), (.bool false), (.int .i64 0), .nil])) [] (some 5) true), (.op (.storeN 11) [(.tmp 5), (.tmp 12)] none true)] false) (.seq (.seq (.region [(.op (.faddr 0) [(.tmp 5)] (some 13) true), (.op .load1 [(.tmp 13)] (some 14) true), (.op (.faddr 6) [(.tmp 2)] (some 15) true), (.op .load1 [(.tmp 15)] (some 16) true), (.op (.bin .sub) [(.tmp 16), (.const (.int .i64 1))] (some 17) true), (.pc (.const (.fn 116 [])) [(.tmp 14), (.const (.int .i64 1)), (.tmp 17)] (some 18) true), (.op .not [(.tmp 18)] (some 19) true), (.op .mv [(.tmp 19)] (some 20) true), (.grp 20 false [(.op (.faddr 1) [(.tmp 5)] (some 21) true), (.op .load1 [(.tmp 21)] (some 22) true), (.pc (.const (.fn 116 [])) [(.tmp 22), (.const (.int .i64 1)), (.const (.int .i64 6))] (some 23) true), (.op .not [(.tmp 23)] (some 24) true)] 24 25 true), (.op .mv [(.tmp 25)] (some 26) true), (.grp 26 false [(.op (.faddr 2) [(.tmp 5)] (some 27) true), (.op .load1 [(.tmp 27)] (some 28) true), (.pc (.const (.fn 116 [])) [(.tmp 28), (.const (.int .i64 1)), (.const (.int .i64 8))] (some 29) true), (.op .not [(.tmp 29)] (some 30) true)] 30 31 true), (.op .mv [(.tmp 31)] (some 32) true), (.grp 32 false [(.op (.faddr 3) [(.tmp 5)] (some 33) true), (.op .load1 [(.tmp 33)] (some 34) true), (.pc (.const (.fn 116 [])) [(.tmp 34), (.const (.int .i64 0)), (.const (.int .i64 1))] (some 35) true), (.op .not [(.tmp 35)] (some 36) true)] 36 37 true), (.op .mv [(.tmp 37)] (some 38) true), (.grp 38 false [(.op (.faddr 4) [(.tmp 5)] (some 39) true), (.op .load1 [(.tmp 39)] (some 40) true), (.pc (.const (.fn 116 [])) [(.tmp 40), (.const (.int .i64 0)), (.const (.int .i64 16))] (some 41) true), (.op .not [(.tmp 41)] (some 42) true)] 42 43 true), (.op .mv [(.tmp 43)] (some 44) true), (.grp 44 false [(.op (.faddr 5) [(.tmp 5)] (some 45) true), (.op .load1 [(.tmp 45)] (some 46) true), (.pc (.const (.fn 116 [])) [(.tmp 46), (.const (.int .i64 0)), (.const (.int .i64 3))] (some 47) true), (.op .not [(.tmp 47)] (some 48) true)] 48 49 true), (.op .mv [(.tmp 49)] (some 50) true), (.grp 50 false [(.op (.faddr 9) [(.tmp 5)] (some 51) true), (.op .load1 [(.tmp 51)] (some 52) true), (.op (.faddr 6) [(.tmp 2)] (some 53) true), (.op .load1 [(.tmp 53)] (some 54) true), (.op (.bin .sub) [(.tmp 54), (.const (.int .i64 1))] (some 55) true), (.pc (.const (.fn 116 [])) [(.tmp 52), (.const (.int .i64 0)), (.tmp 55)] (some 56) true), (.op .not [(.tmp 56)] (some 57) true)] 57 58 true)] false) (.cond (.tmp 58) (.seq (.region [(.op .mv [(.const (.bool false))] (some 4) true)] false) .ret) .skip)) (.seq (.seq (.region [(.op .mv [(.const (.int .i64 0))] (some 6) true)] false) (.block 0 (.loop H154_5 L154_5))) (.seq (.seq (.region [(.op .mv [(.const (.int .i64 0))] (some 7) true)] false) (.block 2 (.loop H154_11 L154_11))) (.seq (.seq (.region [(.op (.faddr 1) [(.tmp 5)] (some 87) true), (.op .load1 [(.tmp 87)] (some 88) true)] false) (.block 4 (.seq (.seq (.region [(.op (.bin .eql) [(.tmp 88), (.const (.int .i64 1))] (some 90) true), (.op .mv [(.tmp 90)] (some 89) true)] false) (.cond (.tmp 89) .skip (.region [(.op (.bin .eql) [(.tmp 88), (.const (.int .i64 6))] (some 91) true), (.op .mv [(.tmp 91)] (some 89) true)] false))) (.cond (.tmp 89) (.seq (.region [(.op (.faddr 4) [(.tmp 5)] (some 92) true), (.op .load1 [(.tmp 92)] (some 93) true), (.op (.bin .gtr) [(.tmp 93), (.const (.int .i64 0))] (some 94) true), (.op .mv [(.tmp 94)] (some 95) true), (.grp 95 true [(.op (.faddr 0) [(.tmp 2)] (some 96) false), (.op (.faddr 2) [(.tmp 96)] (some 97) false), (.op .load1 [(.tmp 97)] (some 98) false), (.op (.faddr 2) [(.tmp 5)] (some 99) false), (.op .load1 [(.tmp 99)] (some 100) false), (.op (.bin .sub) [(.tmp 100), (.const (.int .i64 1))] (some 101) false), (.op (.iaddr 3) [(.tmp 98), (.tmp 101)] (some 102) false), (.op (.faddr 2) [(.tmp 102)] (some 103) false), (.op .load1 [(.tmp 103)] (some 104) false), (.op (.faddr 3) [(.tmp 5)] (some 105) false), (.op .load1 [(.tmp 105)] (some 106) false), (.op (.iaddr 1) [(.tmp 104), (.tmp 106)] (some 107) false), (.op .load1 [(.tmp 107)] (some 108) false), (.op (.faddr 4) [(.tmp 5)] (some 109) false), (.op .load1 [(.tmp 109)] (some 110) false), (.op (.bin .eql) [(.tmp 108), (.tmp 110)] (some 111) true)] 111 112 true), (.op .mv [(.tmp 112)] (some 4) true)] true) .ret) (.seq (.seq (.region [(.op (.bin .eql) [(.tmp 88), (.const (.int .i64 2))] (some 114) true), (.op .mv [(.tmp 114)] (some 113) true)] false) (.cond (.tmp 113) .skip (.region [(.op (.bin .eql) [(.tmp 88), (.const (.int .i64 3))] (some 115) true), (.op .mv [(.tmp 115)] (some 113) true)] false))) (.cond (.tmp 113) (.seq (.region [(.op (.faddr 4) [(.tmp 5)] (some 116) true), (.op .load1 [(.tmp 116)] (some 117) true), (.op (.bin .gtr) [(.tmp 117), (.const (.int .i64 0))] (some 118) true), (.op .mv [(.tmp 118)] (some 119) true), (.grp 119 true [(.op (.faddr 0) [(.tmp 2)] (some 120) false), (.op (.faddr 3) [(.tmp 120)] (some 121) false), (.op .load1 [(.tmp 121)] (some 122) false), (.op (.faddr 4) [(.tmp 5)] (some 123) false), (.op .load1 [(.tmp 123)] (some 124) false), (.op (.bin .sub) [(.tmp 124), (.const (.int .i64 1))] (some 125) false), (.op (.iaddr 3) [(.tmp 122), (.tmp 125)] (some 126) true), (.op (.faddr 0) [(.tmp 126)] (some 127) true), (.op .load1 [(.tmp 127)] (some 128) true)] 128 129 true), (.op .mv [(.tmp 129)] (some 130) true), (.grp 130 true [(.op (.faddr 0) [(.tmp 2)] (some 131) false), (.op (.faddr 3) [(.tmp 131)] (some 132) false), (.op .load1 [(.tmp 132)] (some 133) false), (.op (.faddr 4) [(.tmp 5)] (some 134) false), (.op .load1 [(.tmp 134)] (some 135) false), (.op (.bin .sub) [(.tmp 135), (.const (.int .i64 1))] (some 136) false), (.op (.iaddr 3) [(.tmp 133), (.tmp 136)] (some 137) false), (.op (.faddr 1) [(.tmp 137)] (some 138) false), (.op .load1 [(.tmp 138)] (some 139) false), (.op (.faddr 5) [(.tmp 5)] (some 140) false), (.op .load1 [(.tmp 140)] (some 141) false), (.op (.iaddr 2) [(.tmp 139), (.tmp 141)] (some 142) false), (.op (.faddr 1) [(.tmp 142)] (some 143) false), (.op .load1 [(.tmp 143)] (some 144) false), (.op (.faddr 2) [(.tmp 5)] (some 145) false), (.op .load1 [(.tmp 145)] (some 146) false), (.op (.bin .eql) [(.tmp 144), (.tmp 146)] (some 147) true)] 147 148 true), (.op .mv [(.tmp 148)] (some 4) true)] true) .ret) (.seq (.region [(.op (.bin .eql) [(.tmp 88), (.const (.int .i64 4))] (some 150) true), (.op .mv [(.tmp 150)] (some 149) true)] false) (.cond (.tmp 149) (.seq (.region [(.op (.faddr 4) [(.tmp 5)] (some 151) true), (.op .load1 [(.tmp 151)] (some 152) true), (.op (.bin .gtr) [(.tmp 152), (.const (.int .i64 0))] (some 153) true), (.op .mv [(.tmp 153)] (some 154) true), (.grp 154 true [(.op (.faddr 0) [(.tmp 2)] (some 155) true), (.op (.faddr 3) [(.tmp 155)] (some 156) true), (.op .load1 [(.tmp 156)] (some 157) true), (.op (.faddr 4) [(.tmp 5)] (some 158) true), (.op .load1 [(.tmp 158)] (some 159) true), (.op (.bin .sub) [(.tmp 159), (.const (.int .i64 1))] (some 160) true), (.op (.iaddr 3) [(.tmp 157), (.tmp 160)] (some 161) true), (.op (.faddr 0) [(.tmp 161)] (some 162) true), (.op .load1 [(.tmp 162)] (some 163) true)] 163 164 true), (.op .mv [(.tmp 164)] (some 165) true), (.grp 165 true [(.op (.faddr 6) [(.tmp 5)] (some 166) true), (.op .load1 [(.tmp 166)] (some 167) true), (.pc (.const (.fn 222 [])) [(.tmp 167)] (some 168) true)] 168 169 true), (.op .mv [(.tmp 169)] (some 4) true)] false) .ret) .skip)))))))) (.seq (.region [(.op .mv [(.const (.bool true))] (some 4) true)] false) .ret))))))), [(.tmp 4)], 170, .one, none⟩
theorem t154 : T 154 = some F154 := tab Try.func154 (by kernel_rfl) rfl
def H156_2 : List Vw := [.tidy [2, 3, 10, 11, 12] [(2, none), (3, none), (10, none), (11, none), (12, none)]]
theorem h156_2 (b : Nat) (s : St) : vwL b H156_2 s = vwL b [.tidy [2, 3, 10, 11, 12] [(2, none), (3, none), (10, none), (11, none), (12, none)]] s := rfl
def L156_2 : EC := (.seq (.region [(.op (.bin .lss) [(.tmp 12), (.tmp 11)] (some 13) true)] false) (.seq (.cond (.tmp 13) .skip (.exit 0)) (.seq (.block 1 (.seq (.region [(.op (.iaddr 1) [(.tmp 10), (.tmp 12)] (some 14) true), (.op .load1 [(.tmp 14)] (some 15) true), (.op .mv [(.tmp 15)] (some 6) true)] false) (.seq (.region [(.op .mv [(.tmp 6)] (some 16) true), (.pc (.const (.fn 226 [])) [(.tmp 16)] (some 17) true), (.op .not [(.tmp 17)] (some 18) true)] false) (.cond (.tmp 18) (.seq (.region [(.op .mv [(.const (.bool false))] (some 4) true)] false) .ret) .skip)))) (.region [(.op (.bin .add) [(.tmp 12), (.const (.int .i64 1))] (some 19) true), (.op .mv [(.tmp 19)] (some 12) true)] false))))
-- impl.depOk
def F156 : EF := ⟨(.seq (.region [(.op (.box 7) [(.tmp 0)] (some 2) true), (.op (.box 11) [(.tmp 1)] (some 3) true), (.op .mv [(.const (.bool false))] (some 4) true)] false) (.seq (.seq (.region [(.op (.faddr 10) [(.tmp 3)] (some 9) true), (.op .load1 [(.tmp 9)] (some 10) true), (.op .len [(.tmp 10)] (some 11) true), (.op .mv [(.const (.int .i64 0))] (some 12) true)] false) (.block 0 (.loop H156_2 L156_2))) (.seq (.region [(.op (.faddr 0) [(.tmp 3)] (some 20) true), (.op .load1 [(.tmp 20)] (some 21) true), (.op (.faddr 6) [(.tmp 2)] (some 22) true), (.op .load1 [(.tmp 22)] (some 23) true), (.op (.bin .sub) [(.tmp 23), (.const (.int .i64 1))] (some 24) true), (.pc (.const (.fn 117 [])) [(.tmp 21), (.const (.int .i64 1)), (.tmp 24)] (some 25) true), (.op .mv [(.tmp 25)] (some 26) true), (.grp 26 true [(.op (.faddr 9) [(.tmp 3)] (some 27) true), (.op .load1 [(.tmp 27)] (some 28) true), (.op (.faddr 6) [(.tmp 2)] (some 29) true), (.op .load1 [(.tmp 29)] (some 30) true), (.op (.bin .sub) [(.tmp 30), (.const (.int .i64 1))] (some 31) true), (.pc (.const (.fn 117 [])) [(.tmp 28), (.const (.int .i64 0)), (.tmp 31)] (some 32) true)] 32 33 true), (.op .mv [(.tmp 33)] (some 7) true)] false) (.seq (.seq (.region [(.op .mv [(.tmp 7)] (some 34) true), (.op .not [(.tmp 34)] (some 35) true), (.op .mv [(.tmp 35)] (some 36) true), (.grp 36 false [(.op (.faddr 1) [(.tmp 3)] (some 37) true), (.op .load1 [(.tmp 37)] (some 38) true), (.pc (.const (.fn 117 [])) [(.tmp 38), (.const (.int .i64 1)), (.const (.int .i64 6))] (some 39) true), (.op .not [(.tmp 39)] (some 40) true)] 40 41 true), (.op .mv [(.tmp 41)] (some 42) true), (.grp 42 false [(.op (.faddr 2) [(.tmp 3)] (some 43) true), (.op .load1 [(.tmp 43)] (some 44) true), (.pc (.const (.fn 227 [])) [(.tmp 44)] (some 45) true), (.op .not [(.tmp 45)] (some 46) true)] 46 47 true), (.op .mv [(.tmp 47)] (some 48) true), (.grp 48 false [(.op (.faddr 3) [(.tmp 3)] (some 49) true), (.op .load1 [(.tmp 49)] (some 50) true), (.pc (.const (.fn 117 [])) [(.tmp 50), (.const (.int .i64 0)), (.const (.int .i64 1))] (some 51) true), (.op .not [(.tmp 51)] (some 52) true)] 52 53 true), (.op .mv [(.tmp 53)] (some 54) true), (.grp 54 false [(.op (.faddr 4) [(.tmp 3)] (some 55) true), (.op .load1 [(.tmp 55)] (some 56) true), (.pc (.const (.fn 117 [])) [(.tmp 56), (.const (.int .i64 0)), (.const (.int .i64 16))] (some 57) true), (.op .not [(.tmp 57)] (some 58) true)] 58 59 true), (.op .mv [(.tmp 59)] (some 60) true), (.grp 60 false [(.op (.faddr 5) [(.tmp 3)] (some 61) true), (.op .load1 [(.tmp 61)] (some 62) true), (.pc (.const (.fn 117 [])) [(.tmp 62), (.const (.int .i64 0)), (.const (.int .i64 3))] (some 63) true), (.op .not [(.tmp 63)] (some 64) true)] 64 65 true)] false) (.cond (.tmp 65) (.seq (.region [(.op .mv [(.const (.bool false))] (some 4) true)] false) .ret) .skip)) (.seq (.region [(.op (.faddr 0) [(.tmp 2)] (some 66) true), (.op (.loadN 4) [(.tmp 66)] (some 67) true), (.op (.faddr 4) [(.tmp 3)] (some 68) true), (.op .load1 [(.tmp 68)] (some 69) true), (.pc (.const (.fn 149 [])) [(.tmp 67), (.tmp 69)] (some 70) true), (.op (.alloc (.agg [(.bool false), .nil, (.str ⟨#[]⟩)])) [] (some 8) true), (.op (.storeN 3) [(.tmp 8), (.tmp 70)] none true)] false) (.seq (.block 2 (.seq (.region [(.op (.loadN 11) [(.tmp 3)] (some 72) true), (.pc (.const (.fn 228 [])) [(.tmp 72)] (some 73) true), (.op .mv [(.tmp 73)] (some 71) true)] false) (.cond (.tmp 71) (.seq (.region [(.op (.faddr 4) [(.tmp 3)] (some 74) true), (.op .load1 [(.tmp 74)] (some 75) true), (.op (.bin .gtr) [(.tmp 75), (.const (.int .i64 0))] (some 76) true), (.op .mv [(.tmp 76)] (some 77) true), (.grp 77 true [(.op (.faddr 0) [(.tmp 2)] (some 78) false), (.op (.loadN 4) [(.tmp 78)] (some 79) false), (.op (.faddr 2) [(.tmp 3)] (some 80) false), (.op .load1 [(.tmp 80)] (some 81) false), (.pc (.const (.fn 176 [])) [(.tmp 79), (.tmp 81)] (some 82) false), (.op (.field1 2) [(.tmp 82)] (some 83) false), (.op (.faddr 3) [(.tmp 3)] (some 84) false), (.op .load1 [(.tmp 84)] (some 85) false), (.op (.iaddr 1) [(.tmp 83), (.tmp 85)] (some 86) false), (.op .load1 [(.tmp 86)] (some 87) false), (.op (.faddr 4) [(.tmp 3)] (some 88) false), (.op .load1 [(.tmp 88)] (some 89) false), (.op (.bin .eql) [(.tmp 87), (.tmp 89)] (some 90) true)] 90 91 true), (.op .mv [(.tmp 91)] (some 4) true)] true) .ret) (.seq (.region [(.op (.loadN 11) [(.tmp 3)] (some 93) true), (.pc (.const (.fn 229 [])) [(.tmp 93)] (some 94) true), (.op .mv [(.tmp 94)] (some 92) true)] false) (.cond (.tmp 92) (.seq (.region [(.op (.faddr 4) [(.tmp 3)] (some 95) true), (.op .load1 [(.tmp 95)] (some 96) true), (.op (.bin .gtr) [(.tmp 96), (.const (.int .i64 0))] (some 97) true), (.op .mv [(.tmp 97)] (some 98) true), (.grp 98 true [(.op (.faddr 0) [(.tmp 8)] (some 99) true), (.op .load1 [(.tmp 99)] (some 100) true)] 100 101 true), (.op .mv [(.tmp 101)] (some 102) true), (.grp 102 true [(.op (.faddr 1) [(.tmp 8)] (some 103) false), (.op .load1 [(.tmp 103)] (some 104) false), (.op (.faddr 5) [(.tmp 3)] (some 105) false), (.op .load1 [(.tmp 105)] (some 106) false), (.op (.iaddr 2) [(.tmp 104), (.tmp 106)] (some 107) true), (.op (.faddr 0) [(.tmp 107)] (some 108) true), (.op .load1 [(.tmp 108)] (some 109) true), (.op (.bin .neq) [(.tmp 109), (.const (.str ⟨#[]⟩))] (some 110) true)] 110 111 true), (.op .mv [(.tmp 111)] (some 112) true), (.grp 112 true [(.op (.faddr 1) [(.tmp 8)] (some 113) false), (.op .load1 [(.tmp 113)] (some 114) false), (.op (.faddr 5) [(.tmp 3)] (some 115) false), (.op .load1 [(.tmp 115)] (some 116) false), (.op (.iaddr 2) [(.tmp 114), (.tmp 116)] (some 117) false), (.op (.faddr 1) [(.tmp 117)] (some 118) false), (.op .load1 [(.tmp 118)] (some 119) false), (.op (.faddr 2) [(.tmp 3)] (some 120) false), (.op .load1 [(.tmp 120)] (some 121) false), (.op (.bin .eql) [(.tmp 119), (.tmp 121)] (some 122) true)] 122 123 true), (.op .mv [(.tmp 123)] (some 4) true)] true) .ret) (.seq (.region [(.op (.faddr 1) [(.tmp 3)] (some 125) true), (.op .load1 [(.tmp 125)] (some 126) true), (.op (.bin .eql) [(.tmp 126), (.const (.int .i64 4))] (some 127) true), (.op .mv [(.tmp 127)] (some 124) true)] false) (.cond (.tmp 124) (.seq (.region [(.op (.faddr 4) [(.tmp 3)] (some 128) true), (.op .load1 [(.tmp 128)] (some 129) true), (.op (.bin .gtr) [(.tmp 129), (.const (.int .i64 0))] (some 130) true), (.op .mv [(.tmp 130)] (some 131) true), (.grp 131 true [(.op (.faddr 0) [(.tmp 8)] (some 132) true), (.op .load1 [(.tmp 132)] (some 133) true)] 133 134 true), (.op .mv [(.tmp 134)] (some 135) true), (.grp 135 true [(.op (.faddr 6) [(.tmp 3)] (some 136) true), (.op .load1 [(.tmp 136)] (some 137) true), (.pc (.const (.fn 230 [])) [(.tmp 137)] (some 138) true)] 138 139 true), (.op .mv [(.tmp 139)] (some 4) true)] false) .ret) .skip))))))) (.seq (.region [(.op .mv [(.const (.bool true))] (some 4) true)] false) .ret))))))), [(.tmp 4)], 140, .one, none⟩
theorem t156 : T 156 = some F156 := tab Try.func156 (by kernel_rfl) rfl
-- impl.depPlace
def F157 : EF := ⟨(.seq (.region [(.op (.box 7) [(.tmp 0)] (some 2) true), (.op (.box 1) [(.tmp 1)] (some 3) true), (.op .mv [(.const (.int .i64 0))] (some 4) true)] false) (.seq (.region [(.op (.faddr 5) [(.tmp 2)] (some 5) true), (.op .load1 [(.tmp 5)] (some 6) true), (.op (.mkfn 232) [(.tmp 3)] (some 7) true), (.pc (.const (.fn 231 [])) [(.tmp 6), (.tmp 7)] (some 8) true), (.op .mv [(.tmp 8)] (some 4) true)] false) .ret)), [(.tmp 4)], 9, .one, none⟩
theorem t157 : T 157 = some F157 := tab Try.func157 (by kernel_rfl) rfl
-- impl.inodeAt
def F176 : EF := ⟨(.seq (.region [(.op (.box 4) [(.tmp 0)] (some 2) true), (.op (.alloc (.agg [(.int .i64 0), (.int .i64 0), .nil])) [] (some 4) true)] false) (.seq (.seq (.region [(.op .mv [(.tmp 1)] (some 5) true), (.op (.faddr 2) [(.tmp 2)] (some 6) true), (.op .load1 [(.tmp 6)] (some 7) true), (.op .len [(.tmp 7)] (some 8) true), (.pc (.const (.fn 117 [])) [(.tmp 5), (.const (.int .i64 1)), (.tmp 8)] (some 9) true), (.op .not [(.tmp 9)] (some 10) true)] false) (.cond (.tmp 10) (.seq (.region [(.op (.build [(.int .i64 0), (.int .i64 0), .nil] []) [] (some 11) true), (.op (.storeN 3) [(.tmp 4), (.tmp 11)] none true)] false) .ret) .skip)) (.seq (.region [(.op (.faddr 2) [(.tmp 2)] (some 12) true), (.op .load1 [(.tmp 12)] (some 13) true), (.op .mv [(.tmp 1)] (some 14) true), (.op (.bin .sub) [(.tmp 14), (.const (.int .i64 1))] (some 15) true), (.op (.iaddr 3) [(.tmp 13), (.tmp 15)] (some 16) true), (.op (.loadN 3) [(.tmp 16)] (some 17) true), (.op (.storeN 3) [(.tmp 4), (.tmp 17)] none true)] false) .ret))), [(.cell 4 (.loadN 3))], 18, (.agg [.one, .one, .rrow 1]), none⟩
theorem t176 : T 176 = some F176 := tab Try.func176 (by kernel_rfl) rfl
-- impl.isPtrDep
def F228 : EF := ⟨(.seq (.region [(.op (.box 11) [(.tmp 0)] (some 1) true), (.op .mv [(.const (.bool false))] (some 2) true)] false) (.seq (.region [(.op (.faddr 1) [(.tmp 1)] (some 3) true), (.op .load1 [(.tmp 3)] (some 4) true), (.op (.bin .eql) [(.tmp 4), (.const (.int .i64 1))] (some 5) true), (.op .mv [(.tmp 5)] (some 6) true), (.grp 6 false [(.op (.faddr 1) [(.tmp 1)] (some 7) true), (.op .load1 [(.tmp 7)] (some 8) true), (.op (.bin .eql) [(.tmp 8), (.const (.int .i64 6))] (some 9) true)] 9 10 true), (.op .mv [(.tmp 10)] (some 2) true)] false) .ret)), [(.tmp 2)], 11, .one, none⟩
theorem t228 : T 228 = some F228 := tab Try.func228 (by kernel_rfl) rfl
-- impl.isNameDep
def F229 : EF := ⟨(.seq (.region [(.op (.box 11) [(.tmp 0)] (some 1) true), (.op .mv [(.const (.bool false))] (some 2) true)] false) (.seq (.region [(.op (.faddr 1) [(.tmp 1)] (some 3) true), (.op .load1 [(.tmp 3)] (some 4) true), (.op (.bin .eql) [(.tmp 4), (.const (.int .i64 2))] (some 5) true), (.op .mv [(.tmp 5)] (some 6) true), (.grp 6 false [(.op (.faddr 1) [(.tmp 1)] (some 7) true), (.op .load1 [(.tmp 7)] (some 8) true), (.op (.bin .eql) [(.tmp 8), (.const (.int .i64 3))] (some 9) true)] 9 10 true), (.op .mv [(.tmp 10)] (some 2) true)] false) .ret)), [(.tmp 2)], 11, .one, none⟩
theorem t229 : T 229 = some F229 := tab Try.func229 (by kernel_rfl) rfl
def H231_2 : List Vw := [.tidy [0, 1, 7, 8] [(0, none), (1, none), (7, none), (8, none)]]
theorem h231_2 (b : Nat) (s : St) : vwL b H231_2 s = vwL b [.tidy [0, 1, 7, 8] [(0, none), (1, none), (7, none), (8, none)]] s := rfl
def L231_2 : EC := (.seq (.region [(.op (.bin .lss) [(.tmp 8), (.tmp 7)] (some 9) true)] false) (.seq (.cond (.tmp 9) .skip (.exit 0)) (.seq (.block 1 (.seq (.region [(.op .mv [(.tmp 8)] (some 10) true), (.op .mv [(.tmp 10)] (some 5) true)] false) (.seq (.region [(.op .mv [(.tmp 1)] (some 11) true), (.op .mv [(.tmp 0)] (some 12) true), (.op .mv [(.tmp 5)] (some 13) true), (.op (.iaddr 11) [(.tmp 12), (.tmp 13)] (some 14) true), (.op (.loadN 11) [(.tmp 14)] (some 15) true), (.pc (.tmp 11) [(.tmp 15)] (some 16) true)] false) (.cond (.tmp 16) (.seq (.region [(.op .mv [(.tmp 5)] (some 17) true), (.op .mv [(.tmp 17)] (some 4) true)] false) .ret) .skip)))) (.region [(.op (.bin .add) [(.tmp 8), (.const (.int .i64 1))] (some 18) true), (.op .mv [(.tmp 18)] (some 8) true)] false))))
-- slices.IndexFunc[[]impl.Dep,impl.Dep]
def F231 : EF := ⟨(.seq (.region [(.op .mv [(.const (.int .i64 0))] (some 4) true)] false) (.seq (.seq (.region [(.op .mv [(.tmp 0)] (some 6) true), (.op .len [(.tmp 6)] (some 7) true), (.op .mv [(.const (.int .i64 0))] (some 8) true)] false) (.block 0 (.loop H231_2 L231_2))) (.seq (.region [(.op .mv [(.const (.int .i64 (-1)))] (some 4) true)] false) .ret))), [(.tmp 4)], 19, .one, none⟩
theorem t231 : T 231 = some F231 := tab Try.func231 (by kernel_rfl) rfl
-- impl.depPlace$1
def F232 : EF := ⟨(.seq (.region [(.op (.box 11) [(.tmp 0)] (some 2) true), (.op .mv [(.const (.bool false))] (some 3) true)] false) (.seq (.region [(.op (.faddr 0) [(.tmp 2)] (some 4) true), (.op .load1 [(.tmp 4)] (some 5) true), (.op .load1 [(.tmp 1)] (some 6) true), (.op (.bin .eql) [(.tmp 5), (.tmp 6)] (some 7) true), (.op .mv [(.tmp 7)] (some 3) true)] false) .ret)), [(.tmp 3)], 8, .one, none⟩
theorem t232 : T 232 = some F232 := tab Try.func232 (by kernel_rfl) rfl
def H59_4 : List Vw := [.tidy [1, 3] [(1, none), (3, none)]]
theorem h59_4 (b : Nat) (s : St) : vwL b H59_4 s = vwL b [.tidy [1, 3] [(1, none), (3, none)]] s := rfl
def L59_4 : EC := (.seq (.seq (.region [(.op .mv [(.tmp 3)] (some 26) true), (.op (.faddr 5) [(.tmp 1)] (some 27) true), (.op .load1 [(.tmp 27)] (some 28) true), (.op .len [(.tmp 28)] (some 29) true), (.op (.bin .lss) [(.tmp 26), (.tmp 29)] (some 30) true)] false) (.cond (.tmp 30) .skip (.exit 0))) (.seq (.block 1 (.seq (.region [(.op (.loadN 7) [(.tmp 1)] (some 33) true), (.op .mv [(.tmp 3)] (some 34) true), (.pc (.const (.fn 154 [])) [(.tmp 33), (.tmp 34)] (some 35) true), (.op .not [(.tmp 35)] (some 36) true)] false) (.cond (.tmp 36) (.seq (.region [(.op .mv [(.const (.bool false))] (some 2) true)] false) .ret) .skip))) (.region [(.op .mv [(.tmp 3)] (some 31) true), (.op (.bin .add) [(.tmp 31), (.const (.int .i64 1))] (some 32) true), (.op .mv [(.tmp 32)] (some 3) true)] false)))
-- spec.MemOk
def F59 : EF := ⟨(.seq (.region [(.op (.box 7) [(.tmp 0)] (some 1) true), (.op .mv [(.const (.bool false))] (some 2) true)] false) (.seq (.seq (.region [(.op (.faddr 0) [(.tmp 1)] (some 4) true), (.op (.loadN 4) [(.tmp 4)] (some 5) true), (.pc (.const (.fn 153 [])) [(.tmp 5)] (some 6) true), (.op .not [(.tmp 6)] (some 7) true), (.op .mv [(.tmp 7)] (some 8) true), (.grp 8 false [(.op (.faddr 4) [(.tmp 1)] (some 9) true), (.op .load1 [(.tmp 9)] (some 10) true), (.op .len [(.tmp 10)] (some 11) true), (.op (.bin .neq) [(.tmp 11), (.const (.int .i64 21))] (some 12) true)] 12 13 true), (.op .mv [(.tmp 13)] (some 14) true), (.grp 14 false [(.op (.faddr 5) [(.tmp 1)] (some 15) true), (.op .load1 [(.tmp 15)] (some 16) true), (.op .len [(.tmp 16)] (some 17) true), (.op (.bin .gtr) [(.tmp 17), (.const (.int .i64 40))] (some 18) true)] 18 19 true), (.op .mv [(.tmp 19)] (some 20) true), (.grp 20 false [(.op (.faddr 6) [(.tmp 1)] (some 21) true), (.op .load1 [(.tmp 21)] (some 22) true), (.pc (.const (.fn 116 [])) [(.tmp 22), (.const (.int .i64 1)), (.const (.int .i64 100000))] (some 23) true), (.op .not [(.tmp 23)] (some 24) true)] 24 25 true)] false) (.cond (.tmp 25) (.seq (.region [(.op .mv [(.const (.bool false))] (some 2) true)] false) .ret) .skip)) (.seq (.seq (.region [(.op .mv [(.const (.int .i64 0))] (some 3) true)] false) (.block 0 (.loop H59_4 L59_4))) (.seq (.region [(.op .mv [(.const (.bool true))] (some 2) true)] false) .ret)))), [(.tmp 2)], 37, .one, none⟩
theorem t59 : T 59 = some F59 := tab Try.func59 (by kernel_rfl) rfl
def H60_4 : List Vw := [.tidy [1, 28, 29, 30] [(1, none), (28, none), (29, none), (30, none)]]
theorem h60_4 (b : Nat) (s : St) : vwL b H60_4 s = vwL b [.tidy [1, 28, 29, 30] [(1, none), (28, none), (29, none), (30, none)]] s := rfl
def L60_4 : EC := (.seq (.region [(.op (.bin .lss) [(.tmp 30), (.tmp 29)] (some 31) true)] false) (.seq (.cond (.tmp 31) .skip (.exit 0)) (.seq (.block 1 (.seq (.region [(.op .mv [(.tmp 30)] (some 32) true), (.op (.iaddr 11) [(.tmp 28), (.tmp 30)] (some 33) true), (.op (.loadN 11) [(.tmp 33)] (some 34) true), (.op (.alloc (.agg [(.int .i64 0), (.int .i64 0), (.int .i64 0), (.int .i64 0), (.int .i64 0), (.int .i64 0), (.str ⟨#[]⟩), (.bool false), (.bool false), (.int .i64 0), .nil])) [] (some 4) true), (.op .mv [(.tmp 32)] (some 3) true), (.op (.storeN 11) [(.tmp 4), (.tmp 34)] none true)] false) (.seq (.region [(.op (.loadN 7) [(.tmp 1)] (some 35) true), (.op (.loadN 11) [(.tmp 4)] (some 36) true), (.pc (.const (.fn 156 [])) [(.tmp 35), (.tmp 36)] (some 37) true), (.op .not [(.tmp 37)] (some 38) true), (.op .mv [(.tmp 38)] (some 39) true), (.grp 39 false [(.op (.loadN 7) [(.tmp 1)] (some 40) true), (.op (.faddr 0) [(.tmp 4)] (some 41) true), (.op .load1 [(.tmp 41)] (some 42) true), (.pc (.const (.fn 157 [])) [(.tmp 40), (.tmp 42)] (some 43) true), (.op .mv [(.tmp 3)] (some 44) true), (.op (.bin .neq) [(.tmp 43), (.tmp 44)] (some 45) true)] 45 46 true)] false) (.cond (.tmp 46) (.seq (.region [(.op .mv [(.const (.bool false))] (some 2) true)] false) .ret) .skip)))) (.region [(.op (.bin .add) [(.tmp 30), (.const (.int .i64 1))] (some 47) true), (.op .mv [(.tmp 47)] (some 30) true)] false))))
-- impl.MemOk
def F60 : EF := ⟨(.seq (.region [(.op (.box 7) [(.tmp 0)] (some 1) true), (.op .mv [(.const (.bool false))] (some 2) true)] false) (.seq (.seq (.region [(.op (.faddr 0) [(.tmp 1)] (some 5) true), (.op (.loadN 4) [(.tmp 5)] (some 6) true), (.pc (.const (.fn 155 [])) [(.tmp 6)] (some 7) true), (.op .not [(.tmp 7)] (some 8) true), (.op .mv [(.tmp 8)] (some 9) true), (.grp 9 false [(.op (.faddr 4) [(.tmp 1)] (some 10) true), (.op .load1 [(.tmp 10)] (some 11) true), (.op .len [(.tmp 11)] (some 12) true), (.op (.bin .neq) [(.tmp 12), (.const (.int .i64 21))] (some 13) true)] 13 14 true), (.op .mv [(.tmp 14)] (some 15) true), (.grp 15 false [(.op (.faddr 5) [(.tmp 1)] (some 16) true), (.op .load1 [(.tmp 16)] (some 17) true), (.op .len [(.tmp 17)] (some 18) true), (.op (.bin .gtr) [(.tmp 18), (.const (.int .i64 40))] (some 19) true)] 19 20 true), (.op .mv [(.tmp 20)] (some 21) true), (.grp 21 false [(.op (.faddr 6) [(.tmp 1)] (some 22) true), (.op .load1 [(.tmp 22)] (some 23) true), (.pc (.const (.fn 117 [])) [(.tmp 23), (.const (.int .i64 1)), (.const (.int .i64 100000))] (some 24) true), (.op .not [(.tmp 24)] (some 25) true)] 25 26 true)] false) (.cond (.tmp 26) (.seq (.region [(.op .mv [(.const (.bool false))] (some 2) true)] false) .ret) .skip)) (.seq (.seq (.region [(.op (.faddr 5) [(.tmp 1)] (some 27) true), (.op .load1 [(.tmp 27)] (some 28) true), (.op .len [(.tmp 28)] (some 29) true), (.op .mv [(.const (.int .i64 0))] (some 30) true)] false) (.block 0 (.loop H60_4 L60_4))) (.seq (.region [(.op .mv [(.const (.bool true))] (some 2) true)] false) .ret)))), [(.tmp 2)], 48, .one, none⟩
theorem t60 : T 60 = some F60 := tab Try.func60 (by kernel_rfl) rfl
-- laws.FnExactMemOk
def F9 : EF := ⟨(.seq (.region [(.op (.box 7) [(.tmp 0)] (some 1) true), (.op .mv [(.const (.bool false))] (some 2) true)] false) (.seq (.region [(.op .mv [(.const (.int .i64 1048576))] (some 3) true)] false) (.seq (.region [(.op (.loadN 7) [(.tmp 1)] (some 7) true), (.op .mv [(.tmp 3)] (some 8) true), (.pc (.const (.fn 43 [])) [(.tmp 7), (.tmp 8)] (some 9) true), (.op .mv [(.tmp 9)] (some 3) true)] false) (.seq (.seq (.region [(.op .mv [(.tmp 3)] (some 10) true), (.op (.bin .lss) [(.tmp 10), (.const (.int .i64 0))] (some 11) true)] false) (.cond (.tmp 11) (.seq (.region [(.op .mv [(.const (.bool true))] (some 2) true)] false) .ret) .skip)) (.seq (.region [(.op (.loadN 7) [(.tmp 1)] (some 12) true), (.pc (.const (.fn 45 [])) [(.tmp 12)] (some 13) true), (.pc (.const (.fn 59 [])) [(.tmp 13)] (some 14) true), (.op .mv [(.tmp 14)] (some 4) true)] false) (.seq (.region [(.op (.loadN 7) [(.tmp 1)] (some 15) true), (.pc (.const (.fn 45 [])) [(.tmp 15)] (some 16) true), (.op (.alloc (.agg [.nil, .nil, .nil, .nil, .nil, .nil, (.int .i64 0)])) [] (some 5) true), (.op (.storeN 7) [(.tmp 5), (.tmp 16)] none true)] false) (.seq (.region [(.op (.loadN 7) [(.tmp 5)] (some 17) true), (.pc (.const (.fn 60 [])) [(.tmp 17)] (some 18) true), (.op .mv [(.tmp 18)] (some 6) true)] false) (.seq (.seq (.region [(.op .mv [(.tmp 6)] (some 19) true), (.op .mv [(.tmp 4)] (some 20) true), (.op (.binB true) [(.tmp 19), (.tmp 20)] (some 21) true)] false) (.cond (.tmp 21) (.seq (.region [(.op .mv [(.const (.bool false))] (some 2) true)] false) .ret) .skip)) (.seq (.seq (.region [(.op (.loadN 7) [(.tmp 5)] (some 22) false), (.op (.loadN 7) [(.tmp 1)] (some 23) false), (.pc (.const (.fn 45 [])) [(.tmp 23)] (some 24) false), (.pc (.const (.fn 47 [])) [(.tmp 22), (.tmp 24)] (some 25) true), (.op .not [(.tmp 25)] (some 26) true)] true) (.cond (.tmp 26) (.seq (.region [(.op .mv [(.const (.bool false))] (some 2) true)] false) .ret) .skip)) (.seq (.region [(.op .mv [(.const (.bool true))] (some 2) true)] false) .ret)))))))))), [(.tmp 2)], 27, .one, none⟩
theorem t9 : T 9 = some F9 := tab Try.func9 (by kernel_rfl) rfl
end Go.Proofs.Ytaaajjinpppgeaa
/- The code of some functions, as the evaluator reads it (printed by a program of ours), checked against the program. Own work; no condition. -/
set_option linter.unusedVariables false
set_option linter.unusedSimpArgs false
set_option linter.unusedSectionVars false
namespace Go.Proofs.Ytaaajjinpppgeaa
open Go Go.Abs
set_option maxRecDepth 100000
-- spec.BitsOk
def F219 : EF := ⟨(.seq (.region [(.op (.box 2) [(.tmp 0)] (some 1) true), (.op .mv [(.const (.bool false))] (some 2) true)] false) (.seq (.region [(.op (.faddr 0) [(.tmp 1)] (some 3) true), (.op .load1 [(.tmp 3)] (some 4) true), (.op .len [(.tmp 4)] (some 5) true), (.op (.bin .eql) [(.tmp 5), (.const (.int .i64 16))] (some 6) true), (.op .mv [(.tmp 6)] (some 7) true), (.grp 7 true [(.op (.faddr 1) [(.tmp 1)] (some 8) true), (.op .load1 [(.tmp 8)] (some 9) true), (.op .len [(.tmp 9)] (some 10) true), (.op (.bin .eql) [(.tmp 10), (.const (.int .i64 8))] (some 11) true)] 11 12 true), (.op .mv [(.tmp 12)] (some 2) true)] false) .ret)), [(.tmp 2)], 13, .one, none⟩
theorem t219 : T 219 = some F219 := tab Try.func219 (by kernel_rfl) rfl
def H220_4 : List Vw := [.tidy [1, 3] [(1, none), (3, none)]]
theorem h220_4 (b : Nat) (s : St) : vwL b H220_4 s = vwL b [.tidy [1, 3] [(1, none), (3, none)]] s := rfl
def L220_4 : EC := (.seq (.seq (.region [(.op .mv [(.tmp 3)] (some 20) true), (.op (.bin .lss) [(.tmp 20), (.const (.int .i64 2))] (some 21) true)] false) (.cond (.tmp 21) .skip (.exit 0))) (.seq (.block 1 (.seq (.region [(.op (.faddr 2) [(.tmp 1)] (some 24) true), (.op .load1 [(.tmp 24)] (some 25) true), (.op .mv [(.tmp 3)] (some 26) true), (.op (.iaddr 1) [(.tmp 25), (.tmp 26)] (some 27) true), (.op .load1 [(.tmp 27)] (some 28) true), (.pc (.const (.fn 116 [])) [(.tmp 28), (.const (.int .i64 0)), (.const (.int .i64 16))] (some 29) true), (.op .not [(.tmp 29)] (some 30) true), (.op .mv [(.tmp 30)] (some 31) true), (.grp 31 false [(.op (.faddr 0) [(.tmp 1)] (some 32) true), (.op .load1 [(.tmp 32)] (some 33) true), (.op (.bin .eql) [(.tmp 33), (.const (.int .i64 0))] (some 34) true), (.op .mv [(.tmp 34)] (some 35) true), (.grp 35 true [(.op (.faddr 2) [(.tmp 1)] (some 36) true), (.op .load1 [(.tmp 36)] (some 37) true), (.op .mv [(.tmp 3)] (some 38) true), (.op (.iaddr 1) [(.tmp 37), (.tmp 38)] (some 39) true), (.op .load1 [(.tmp 39)] (some 40) true), (.op (.bin .neq) [(.tmp 40), (.const (.int .i64 0))] (some 41) true)] 41 42 true)] 42 43 true)] false) (.cond (.tmp 43) (.seq (.region [(.op .mv [(.const (.bool false))] (some 2) true)] false) .ret) .skip))) (.region [(.op .mv [(.tmp 3)] (some 22) true), (.op (.bin .add) [(.tmp 22), (.const (.int .i64 1))] (some 23) true), (.op .mv [(.tmp 23)] (some 3) true)] false)))
-- spec.InodeOk
def F220 : EF := ⟨(.seq (.region [(.op (.box 3) [(.tmp 0)] (some 1) true), (.op .mv [(.const (.bool false))] (some 2) true)] false) (.seq (.seq (.region [(.op (.faddr 0) [(.tmp 1)] (some 4) true), (.op .load1 [(.tmp 4)] (some 5) true), (.pc (.const (.fn 116 [])) [(.tmp 5), (.const (.int .i64 0)), (.const (.int .i64 2))] (some 6) true), (.op .not [(.tmp 6)] (some 7) true), (.op .mv [(.tmp 7)] (some 8) true), (.grp 8 false [(.op (.faddr 1) [(.tmp 1)] (some 9) true), (.op .load1 [(.tmp 9)] (some 10) true), (.pc (.const (.fn 116 [])) [(.tmp 10), (.const (.int .i64 0)), (.const (.int .i64 200))] (some 11) true), (.op .not [(.tmp 11)] (some 12) true)] 12 13 true), (.op .mv [(.tmp 13)] (some 14) true), (.grp 14 false [(.op (.faddr 2) [(.tmp 1)] (some 15) true), (.op .load1 [(.tmp 15)] (some 16) true), (.op .len [(.tmp 16)] (some 17) true), (.op (.bin .neq) [(.tmp 17), (.const (.int .i64 2))] (some 18) true)] 18 19 true)] false) (.cond (.tmp 19) (.seq (.region [(.op .mv [(.const (.bool false))] (some 2) true)] false) .ret) .skip)) (.seq (.seq (.region [(.op .mv [(.const (.int .i64 0))] (some 3) true)] false) (.block 0 (.loop H220_4 L220_4))) (.seq (.region [(.op (.faddr 0) [(.tmp 1)] (some 44) true), (.op .load1 [(.tmp 44)] (some 45) true), (.op (.bin .neq) [(.tmp 45), (.const (.int .i64 0))] (some 46) true), (.op .mv [(.tmp 46)] (some 47) true), (.grp 47 false [(.op (.faddr 1) [(.tmp 1)] (some 48) true), (.op .load1 [(.tmp 48)] (some 49) true), (.op (.bin .eql) [(.tmp 49), (.const (.int .i64 0))] (some 50) true)] 50 51 true), (.op .mv [(.tmp 51)] (some 2) true)] false) .ret)))), [(.tmp 2)], 52, .one, none⟩
theorem t220 : T 220 = some F220 := tab Try.func220 (by kernel_rfl) rfl
def H221_13 : List Vw := [.tidy [1, 3, 4, 5] [(1, none), (3, none), (4, none), (5, none)]]
theorem h221_13 (b : Nat) (s : St) : vwL b H221_13 s = vwL b [.tidy [1, 3, 4, 5] [(1, none), (3, none), (4, none), (5, none)]] s := rfl
def L221_13 : EC := (.seq (.seq (.region [(.op .mv [(.tmp 5)] (some 55) true), (.op .mv [(.tmp 3)] (some 56) true), (.op (.bin .lss) [(.tmp 55), (.tmp 56)] (some 57) true)] false) (.cond (.tmp 57) .skip (.exit 2))) (.seq (.block 3 (.seq (.region [(.op (.faddr 1) [(.tmp 1)] (some 60) false), (.op .load1 [(.tmp 60)] (some 61) false), (.op .mv [(.tmp 5)] (some 62) false), (.op (.iaddr 2) [(.tmp 61), (.tmp 62)] (some 63) false), (.op (.faddr 0) [(.tmp 63)] (some 64) false), (.op .load1 [(.tmp 64)] (some 65) false), (.op (.faddr 0) [(.tmp 4)] (some 66) false), (.op .load1 [(.tmp 66)] (some 67) false), (.op (.bin .eql) [(.tmp 65), (.tmp 67)] (some 68) true)] true) (.cond (.tmp 68) (.seq (.region [(.op .mv [(.const (.bool false))] (some 2) true)] false) .ret) .skip))) (.region [(.op .mv [(.tmp 5)] (some 58) true), (.op (.bin .add) [(.tmp 58), (.const (.int .i64 1))] (some 59) true), (.op .mv [(.tmp 59)] (some 5) true)] false)))
def H221_6 : List Vw := [.tidy [1, 3] [(1, none), (3, none)]]
theorem h221_6 (b : Nat) (s : St) : vwL b H221_6 s = vwL b [.tidy [1, 3] [(1, none), (3, none)]] s := rfl
def L221_6 : EC := (.seq (.seq (.region [(.op .mv [(.tmp 3)] (some 28) true), (.op (.bin .lss) [(.tmp 28), (.const (.int .i64 4))] (some 29) true)] false) (.cond (.tmp 29) .skip (.exit 0))) (.seq (.block 1 (.seq (.region [(.op (.faddr 1) [(.tmp 1)] (some 32) true), (.op .load1 [(.tmp 32)] (some 33) true), (.op .mv [(.tmp 3)] (some 34) true), (.op (.iaddr 2) [(.tmp 33), (.tmp 34)] (some 35) true), (.op (.loadN 2) [(.tmp 35)] (some 36) true), (.op (.alloc (.agg [(.str ⟨#[]⟩), (.int .i64 0)])) [] (some 4) true), (.op (.storeN 2) [(.tmp 4), (.tmp 36)] none true)] false) (.seq (.seq (.region [(.op (.faddr 0) [(.tmp 4)] (some 37) true), (.op .load1 [(.tmp 37)] (some 38) true), (.op (.bin .eql) [(.tmp 38), (.const (.str ⟨#[]⟩))] (some 39) true), (.op .mv [(.tmp 39)] (some 40) true), (.grp 40 true [(.op (.faddr 1) [(.tmp 4)] (some 41) true), (.op .load1 [(.tmp 41)] (some 42) true), (.op (.bin .eql) [(.tmp 42), (.const (.int .i64 0))] (some 43) true)] 43 44 true)] false) (.cond (.tmp 44) (.exit 1) .skip)) (.seq (.seq (.region [(.op (.faddr 0) [(.tmp 4)] (some 45) true), (.op .load1 [(.tmp 45)] (some 46) true), (.pc (.const (.fn 222 [])) [(.tmp 46)] (some 47) true), (.op .not [(.tmp 47)] (some 48) true), (.op .mv [(.tmp 48)] (some 49) true), (.grp 49 false [(.op (.faddr 1) [(.tmp 4)] (some 50) true), (.op .load1 [(.tmp 50)] (some 51) true), (.pc (.const (.fn 116 [])) [(.tmp 51), (.const (.int .i64 1)), (.const (.int .i64 8))] (some 52) true), (.op .not [(.tmp 52)] (some 53) true)] 53 54 true)] false) (.cond (.tmp 54) (.seq (.region [(.op .mv [(.const (.bool false))] (some 2) true)] false) .ret) .skip)) (.seq (.region [(.op .mv [(.const (.int .i64 0))] (some 5) true)] false) (.block 2 (.loop H221_13 L221_13))))))) (.region [(.op .mv [(.tmp 3)] (some 30) true), (.op (.bin .add) [(.tmp 30), (.const (.int .i64 1))] (some 31) true), (.op .mv [(.tmp 31)] (some 3) true)] false)))
-- spec.BlockOk
def F221 : EF := ⟨(.seq (.region [(.op (.box 3) [(.tmp 0)] (some 1) true), (.op .mv [(.const (.bool false))] (some 2) true)] false) (.seq (.seq (.region [(.op (.faddr 0) [(.tmp 1)] (some 6) true), (.op .load1 [(.tmp 6)] (some 7) true), (.op .not [(.tmp 7)] (some 8) true)] false) (.cond (.tmp 8) (.seq (.region [(.op (.faddr 1) [(.tmp 1)] (some 9) true), (.op .load1 [(.tmp 9)] (some 10) true), (.op .len [(.tmp 10)] (some 11) true), (.op (.bin .eql) [(.tmp 11), (.const (.int .i64 0))] (some 12) true), (.op .mv [(.tmp 12)] (some 13) true), (.grp 13 true [(.op (.faddr 2) [(.tmp 1)] (some 14) true), (.op .load1 [(.tmp 14)] (some 15) true), (.op .lenStr [(.tmp 15)] (some 16) true), (.op (.bin .leq) [(.tmp 16), (.const (.int .i64 16))] (some 17) true)] 17 18 true), (.op .mv [(.tmp 18)] (some 2) true)] false) .ret) .skip)) (.seq (.seq (.region [(.op (.faddr 1) [(.tmp 1)] (some 19) true), (.op .load1 [(.tmp 19)] (some 20) true), (.op .len [(.tmp 20)] (some 21) true), (.op (.bin .neq) [(.tmp 21), (.const (.int .i64 4))] (some 22) true), (.op .mv [(.tmp 22)] (some 23) true), (.grp 23 false [(.op (.faddr 2) [(.tmp 1)] (some 24) true), (.op .load1 [(.tmp 24)] (some 25) true), (.op (.bin .neq) [(.tmp 25), (.const (.str ⟨#[]⟩))] (some 26) true)] 26 27 true)] false) (.cond (.tmp 27) (.seq (.region [(.op .mv [(.const (.bool false))] (some 2) true)] false) .ret) .skip)) (.seq (.seq (.region [(.op .mv [(.const (.int .i64 0))] (some 3) true)] false) (.block 0 (.loop H221_6 L221_6))) (.seq (.region [(.op .mv [(.const (.bool true))] (some 2) true)] false) .ret))))), [(.tmp 2)], 69, .one, none⟩
theorem t221 : T 221 = some F221 := tab Try.func221 (by kernel_rfl) rfl
def H222_2 : List Vw := [.tidy [0, 3] [(0, none), (3, none)]]
theorem h222_2 (b : Nat) (s : St) : vwL b H222_2 s = vwL b [.tidy [0, 3] [(0, none), (3, none)]] s := rfl
def L222_2 : EC := (.seq (.seq (.region [(.op .mv [(.tmp 3)] (some 4) true), (.op .mv [(.tmp 0)] (some 5) true), (.op .lenStr [(.tmp 5)] (some 6) true), (.op (.bin .lss) [(.tmp 4), (.tmp 6)] (some 7) true)] false) (.cond (.tmp 7) .skip (.exit 0))) (.seq (.block 1 (.seq (.region [(.op .mv [(.tmp 0)] (some 10) true), (.op .mv [(.tmp 3)] (some 11) true), (.op .idxStr [(.tmp 10), (.tmp 11)] (some 12) true), (.op (.bin .lss) [(.tmp 12), (.const (.int .u8 97))] (some 13) true), (.op .mv [(.tmp 13)] (some 14) true), (.grp 14 false [(.op .mv [(.tmp 0)] (some 15) true), (.op .mv [(.tmp 3)] (some 16) true), (.op .idxStr [(.tmp 15), (.tmp 16)] (some 17) true), (.op (.bin .gtr) [(.tmp 17), (.const (.int .u8 122))] (some 18) true)] 18 19 true), (.op .mv [(.tmp 19)] (some 20) true), (.grp 20 true [(.op .mv [(.tmp 0)] (some 21) true), (.op .mv [(.tmp 3)] (some 22) true), (.op .idxStr [(.tmp 21), (.tmp 22)] (some 23) true), (.op (.bin .lss) [(.tmp 23), (.const (.int .u8 48))] (some 24) true), (.op .mv [(.tmp 24)] (some 25) true), (.grp 25 false [(.op .mv [(.tmp 0)] (some 26) true), (.op .mv [(.tmp 3)] (some 27) true), (.op .idxStr [(.tmp 26), (.tmp 27)] (some 28) true), (.op (.bin .gtr) [(.tmp 28), (.const (.int .u8 57))] (some 29) true)] 29 30 true)] 30 31 true)] false) (.cond (.tmp 31) (.seq (.region [(.op .mv [(.const (.bool false))] (some 2) true)] false) .ret) .skip))) (.region [(.op .mv [(.tmp 3)] (some 8) true), (.op (.bin .add) [(.tmp 8), (.const (.int .i64 1))] (some 9) true), (.op .mv [(.tmp 9)] (some 3) true)] false)))
-- spec.NameOk
def F222 : EF := ⟨(.seq (.region [(.op .mv [(.const (.bool false))] (some 2) true)] false) (.seq (.seq (.region [(.op .mv [(.const (.int .i64 0))] (some 3) true)] false) (.block 0 (.loop H222_2 L222_2))) (.seq (.region [(.op .mv [(.tmp 0)] (some 32) true), (.op .lenStr [(.tmp 32)] (some 33) true), (.pc (.const (.fn 116 [])) [(.tmp 33), (.const (.int .i64 1)), (.const (.int .i64 6))] (some 34) true), (.op .mv [(.tmp 34)] (some 2) true)] false) .ret))), [(.tmp 2)], 35, .one, none⟩
theorem t222 : T 222 = some F222 := tab Try.func222 (by kernel_rfl) rfl
def H223_2 : List Vw := [.tidy [1, 6, 7, 8] [(1, none), (6, none), (7, none), (8, none)]]
theorem h223_2 (b : Nat) (s : St) : vwL b H223_2 s = vwL b [.tidy [1, 6, 7, 8] [(1, none), (6, none), (7, none), (8, none)]] s := rfl
def L223_2 : EC := (.seq (.region [(.op (.bin .lss) [(.tmp 8), (.tmp 7)] (some 9) true)] false) (.seq (.cond (.tmp 9) .skip (.exit 0)) (.seq (.block 1 (.seq (.region [(.op (.iaddr 1) [(.tmp 6), (.tmp 8)] (some 10) true), (.op .load1 [(.tmp 10)] (some 11) true), (.op .mv [(.tmp 11)] (some 4) true)] false) (.seq (.region [(.op .mv [(.tmp 4)] (some 12) true), (.pc (.const (.fn 117 [])) [(.tmp 12), (.const (.int .i64 0)), (.const (.int .i64 16))] (some 13) true), (.op .not [(.tmp 13)] (some 14) true), (.op .mv [(.tmp 14)] (some 15) true), (.grp 15 false [(.op .mv [(.tmp 4)] (some 16) true), (.op (.bin .neq) [(.tmp 16), (.const (.int .i64 0))] (some 17) true), (.op .mv [(.tmp 17)] (some 18) true), (.grp 18 true [(.op (.faddr 0) [(.tmp 1)] (some 19) true), (.op .load1 [(.tmp 19)] (some 20) true), (.op (.bin .eql) [(.tmp 20), (.const (.int .i64 0))] (some 21) true)] 21 22 true)] 22 23 true)] false) (.cond (.tmp 23) (.seq (.region [(.op .mv [(.const (.bool false))] (some 2) true)] false) .ret) .skip)))) (.region [(.op (.bin .add) [(.tmp 8), (.const (.int .i64 1))] (some 24) true), (.op .mv [(.tmp 24)] (some 8) true)] false))))
-- impl.InodeOk
def F223 : EF := ⟨(.seq (.region [(.op (.box 3) [(.tmp 0)] (some 1) true), (.op .mv [(.const (.bool false))] (some 2) true)] false) (.seq (.seq (.region [(.op (.faddr 2) [(.tmp 1)] (some 5) true), (.op .load1 [(.tmp 5)] (some 6) true), (.op .len [(.tmp 6)] (some 7) true), (.op .mv [(.const (.int .i64 0))] (some 8) true)] false) (.block 0 (.loop H223_2 L223_2))) (.seq (.region [(.op (.faddr 0) [(.tmp 1)] (some 25) true), (.op .load1 [(.tmp 25)] (some 26) true), (.pc (.const (.fn 117 [])) [(.tmp 26), (.const (.int .i64 0)), (.const (.int .i64 2))] (some 27) true), (.op .mv [(.tmp 27)] (some 28) true), (.grp 28 true [(.op (.faddr 1) [(.tmp 1)] (some 29) true), (.op .load1 [(.tmp 29)] (some 30) true), (.pc (.const (.fn 117 [])) [(.tmp 30), (.const (.int .i64 0)), (.const (.int .i64 200))] (some 31) true)] 31 32 true), (.op .mv [(.tmp 32)] (some 33) true), (.grp 33 true [(.op (.faddr 2) [(.tmp 1)] (some 34) true), (.op .load1 [(.tmp 34)] (some 35) true), (.op .len [(.tmp 35)] (some 36) true), (.op (.bin .eql) [(.tmp 36), (.const (.int .i64 2))] (some 37) true)] 37 38 true), (.op .mv [(.tmp 38)] (some 39) true), (.grp 39 true [(.op (.faddr 0) [(.tmp 1)] (some 40) true), (.op .load1 [(.tmp 40)] (some 41) true), (.op (.bin .neq) [(.tmp 41), (.const (.int .i64 0))] (some 42) true), (.op .mv [(.tmp 42)] (some 43) true), (.grp 43 false [(.op (.faddr 1) [(.tmp 1)] (some 44) true), (.op .load1 [(.tmp 44)] (some 45) true), (.op (.bin .eql) [(.tmp 45), (.const (.int .i64 0))] (some 46) true)] 46 47 true)] 47 48 true), (.op .mv [(.tmp 48)] (some 2) true)] false) .ret))), [(.tmp 2)], 49, .one, none⟩
theorem t223 : T 223 = some F223 := tab Try.func223 (by kernel_rfl) rfl
def H224_4 : List Vw := [.tidy [1, 19, 20, 21] [(1, none), (19, none), (20, none), (21, none)]]
theorem h224_4 (b : Nat) (s : St) : vwL b H224_4 s = vwL b [.tidy [1, 19, 20, 21] [(1, none), (19, none), (20, none), (21, none)]] s := rfl
def L224_4 : EC := (.seq (.region [(.op (.bin .lss) [(.tmp 21), (.tmp 20)] (some 22) true)] false) (.seq (.cond (.tmp 22) .skip (.exit 0)) (.seq (.block 1 (.seq (.region [(.op .mv [(.tmp 21)] (some 23) true), (.op (.iaddr 2) [(.tmp 19), (.tmp 21)] (some 24) true), (.op (.loadN 2) [(.tmp 24)] (some 25) true), (.op (.alloc (.agg [(.str ⟨#[]⟩), (.int .i64 0)])) [] (some 4) true), (.op .mv [(.tmp 23)] (some 3) true), (.op (.storeN 2) [(.tmp 4), (.tmp 25)] none true)] false) (.seq (.seq (.region [(.op (.loadN 2) [(.tmp 4)] (some 26) true), (.op (.build [(.str ⟨#[]⟩), (.int .i64 0)] []) [] (some 27) true), (.op (.eqs false [2, 1]) [(.tmp 26), (.tmp 27)] (some 28) true)] false) (.cond (.tmp 28) (.exit 1) .skip)) (.seq (.region [(.op (.faddr 0) [(.tmp 4)] (some 29) true), (.op .load1 [(.tmp 29)] (some 30) true), (.pc (.const (.fn 230 [])) [(.tmp 30)] (some 31) true), (.op .not [(.tmp 31)] (some 32) true), (.op .mv [(.tmp 32)] (some 33) true), (.grp 33 false [(.op (.faddr 1) [(.tmp 4)] (some 34) true), (.op .load1 [(.tmp 34)] (some 35) true), (.pc (.const (.fn 227 [])) [(.tmp 35)] (some 36) true), (.op .not [(.tmp 36)] (some 37) true)] 37 38 true), (.op .mv [(.tmp 38)] (some 39) true), (.grp 39 false [(.op (.loadN 3) [(.tmp 1)] (some 40) true), (.op (.faddr 0) [(.tmp 4)] (some 41) true), (.op .load1 [(.tmp 41)] (some 42) true), (.pc (.const (.fn 265 [])) [(.tmp 40), (.tmp 42)] (some 43) true), (.op .mv [(.tmp 3)] (some 44) true), (.op (.bin .neq) [(.tmp 43), (.tmp 44)] (some 45) true)] 45 46 true)] false) (.cond (.tmp 46) (.seq (.region [(.op .mv [(.const (.bool false))] (some 2) true)] false) .ret) .skip))))) (.region [(.op (.bin .add) [(.tmp 21), (.const (.int .i64 1))] (some 47) true), (.op .mv [(.tmp 47)] (some 21) true)] false))))
-- impl.BlockOk
def F224 : EF := ⟨(.seq (.region [(.op (.box 3) [(.tmp 0)] (some 1) true), (.op .mv [(.const (.bool false))] (some 2) true)] false) (.seq (.seq (.region [(.op (.faddr 0) [(.tmp 1)] (some 5) true), (.op .load1 [(.tmp 5)] (some 6) true), (.op .not [(.tmp 6)] (some 7) true)] false) (.cond (.tmp 7) (.seq (.region [(.op (.faddr 1) [(.tmp 1)] (some 8) true), (.op .load1 [(.tmp 8)] (some 9) true), (.op .len [(.tmp 9)] (some 10) true), (.op (.bin .eql) [(.tmp 10), (.const (.int .i64 0))] (some 11) true), (.op .mv [(.tmp 11)] (some 12) true), (.grp 12 true [(.op (.faddr 2) [(.tmp 1)] (some 13) true), (.op .load1 [(.tmp 13)] (some 14) true), (.op .lenStr [(.tmp 14)] (some 15) true), (.op (.bin .leq) [(.tmp 15), (.const (.int .i64 16))] (some 16) true)] 16 17 true), (.op .mv [(.tmp 17)] (some 2) true)] false) .ret) .skip)) (.seq (.seq (.region [(.op (.faddr 1) [(.tmp 1)] (some 18) true), (.op .load1 [(.tmp 18)] (some 19) true), (.op .len [(.tmp 19)] (some 20) true), (.op .mv [(.const (.int .i64 0))] (some 21) true)] false) (.block 0 (.loop H224_4 L224_4))) (.seq (.region [(.op (.faddr 1) [(.tmp 1)] (some 48) true), (.op .load1 [(.tmp 48)] (some 49) true), (.op .len [(.tmp 49)] (some 50) true), (.op (.bin .eql) [(.tmp 50), (.const (.int .i64 4))] (some 51) true), (.op .mv [(.tmp 51)] (some 52) true), (.grp 52 true [(.op (.faddr 2) [(.tmp 1)] (some 53) true), (.op .load1 [(.tmp 53)] (some 54) true), (.op (.bin .eql) [(.tmp 54), (.const (.str ⟨#[]⟩))] (some 55) true)] 55 56 true), (.op .mv [(.tmp 56)] (some 2) true)] false) .ret)))), [(.tmp 2)], 57, .one, none⟩
theorem t224 : T 224 = some F224 := tab Try.func224 (by kernel_rfl) rfl
-- impl.BitsOk
def F225 : EF := ⟨(.seq (.region [(.op (.box 2) [(.tmp 0)] (some 1) true), (.op .mv [(.const (.bool false))] (some 2) true)] false) (.seq (.region [(.op (.faddr 0) [(.tmp 1)] (some 3) true), (.op .load1 [(.tmp 3)] (some 4) true), (.op .len [(.tmp 4)] (some 5) true), (.op (.bin .eql) [(.tmp 5), (.const (.int .i64 16))] (some 6) true), (.op .mv [(.tmp 6)] (some 7) true), (.grp 7 true [(.op (.faddr 1) [(.tmp 1)] (some 8) true), (.op .load1 [(.tmp 8)] (some 9) true), (.op .len [(.tmp 9)] (some 10) true), (.op (.bin .eql) [(.tmp 10), (.const (.int .i64 8))] (some 11) true)] 11 12 true), (.op .mv [(.tmp 12)] (some 2) true)] false) .ret)), [(.tmp 2)], 13, .one, none⟩
theorem t225 : T 225 = some F225 := tab Try.func225 (by kernel_rfl) rfl
-- impl.isBlock
def F226 : EF := ⟨(.seq (.region [(.op .mv [(.const (.bool false))] (some 2) true)] false) (.seq (.region [(.op .mv [(.tmp 0)] (some 3) true), (.pc (.const (.fn 117 [])) [(.tmp 3), (.const (.int .i64 1)), (.const (.int .i64 16))] (some 4) true), (.op .mv [(.tmp 4)] (some 2) true)] false) .ret)), [(.tmp 2)], 5, .one, none⟩
theorem t226 : T 226 = some F226 := tab Try.func226 (by kernel_rfl) rfl
-- impl.isIno
def F227 : EF := ⟨(.seq (.region [(.op .mv [(.const (.bool false))] (some 2) true)] false) (.seq (.region [(.op .mv [(.tmp 0)] (some 3) true), (.pc (.const (.fn 117 [])) [(.tmp 3), (.const (.int .i64 1)), (.const (.int .i64 8))] (some 4) true), (.op .mv [(.tmp 4)] (some 2) true)] false) .ret)), [(.tmp 2)], 5, .one, none⟩
theorem t227 : T 227 = some F227 := tab Try.func227 (by kernel_rfl) rfl
def H230_2 : List Vw := [.tidy [0, 5, 6] [(0, none), (5, none), (6, none)]]
theorem h230_2 (b : Nat) (s : St) : vwL b H230_2 s = vwL b [.tidy [0, 5, 6] [(0, none), (5, none), (6, none)]] s := rfl
def L230_2 : EC := (.seq (.region [(.op (.bin .lss) [(.tmp 6), (.tmp 5)] (some 7) true)] false) (.seq (.cond (.tmp 7) .skip (.exit 0)) (.seq (.block 1 (.seq (.region [(.op .mv [(.tmp 6)] (some 8) true), (.op .mv [(.tmp 8)] (some 3) true)] false) (.seq (.region [(.op .mv [(.tmp 0)] (some 9) true), (.op .mv [(.tmp 3)] (some 10) true), (.op .idxStr [(.tmp 9), (.tmp 10)] (some 11) true), (.op (.conv .i64) [(.tmp 11)] (some 12) true), (.pc (.const (.fn 117 [])) [(.tmp 12), (.const (.int .i64 97)), (.const (.int .i64 122))] (some 13) true), (.op .not [(.tmp 13)] (some 14) true), (.op .mv [(.tmp 14)] (some 15) true), (.grp 15 true [(.op .mv [(.tmp 0)] (some 16) true), (.op .mv [(.tmp 3)] (some 17) true), (.op .idxStr [(.tmp 16), (.tmp 17)] (some 18) true), (.op (.conv .i64) [(.tmp 18)] (some 19) true), (.pc (.const (.fn 117 [])) [(.tmp 19), (.const (.int .i64 48)), (.const (.int .i64 57))] (some 20) true), (.op .not [(.tmp 20)] (some 21) true)] 21 22 true)] false) (.cond (.tmp 22) (.seq (.region [(.op .mv [(.const (.bool false))] (some 2) true)] false) .ret) .skip)))) (.region [(.op (.bin .add) [(.tmp 6), (.const (.int .i64 1))] (some 23) true), (.op .mv [(.tmp 23)] (some 6) true)] false))))
-- impl.NameOk
def F230 : EF := ⟨(.seq (.region [(.op .mv [(.const (.bool false))] (some 2) true)] false) (.seq (.seq (.region [(.op .mv [(.tmp 0)] (some 4) true), (.op .lenStr [(.tmp 4)] (some 5) true), (.op .mv [(.const (.int .i64 0))] (some 6) true)] false) (.block 0 (.loop H230_2 L230_2))) (.seq (.region [(.op .mv [(.tmp 0)] (some 24) true), (.op .lenStr [(.tmp 24)] (some 25) true), (.pc (.const (.fn 117 [])) [(.tmp 25), (.const (.int .i64 1)), (.const (.int .i64 6))] (some 26) true), (.op .mv [(.tmp 26)] (some 2) true)] false) .ret))), [(.tmp 2)], 27, .one, none⟩
theorem t230 : T 230 = some F230 := tab Try.func230 (by kernel_rfl) rfl
-- impl.SlotOf
def F265 : EF := ⟨(.seq (.region [(.op (.box 3) [(.tmp 0)] (some 2) true), (.op (.box 1) [(.tmp 1)] (some 3) true), (.op .mv [(.const (.int .i64 0))] (some 4) true)] false) (.seq (.seq (.region [(.op .load1 [(.tmp 3)] (some 5) true), (.op (.bin .eql) [(.tmp 5), (.const (.str ⟨#[]⟩))] (some 6) true)] false) (.cond (.tmp 6) (.seq (.region [(.op .mv [(.const (.int .i64 (-1)))] (some 4) true)] false) .ret) .skip)) (.seq (.region [(.op (.faddr 1) [(.tmp 2)] (some 7) true), (.op .load1 [(.tmp 7)] (some 8) true), (.op (.mkfn 295) [(.tmp 3)] (some 9) true), (.pc (.const (.fn 294 [])) [(.tmp 8), (.tmp 9)] (some 10) true), (.op .mv [(.tmp 10)] (some 4) true)] false) .ret))), [(.tmp 4)], 11, .one, none⟩
theorem t265 : T 265 = some F265 := tab Try.func265 (by kernel_rfl) rfl
def H294_2 : List Vw := [.tidy [0, 1, 7, 8] [(0, none), (1, none), (7, none), (8, none)]]
theorem h294_2 (b : Nat) (s : St) : vwL b H294_2 s = vwL b [.tidy [0, 1, 7, 8] [(0, none), (1, none), (7, none), (8, none)]] s := rfl
def L294_2 : EC := (.seq (.region [(.op (.bin .lss) [(.tmp 8), (.tmp 7)] (some 9) true)] false) (.seq (.cond (.tmp 9) .skip (.exit 0)) (.seq (.block 1 (.seq (.region [(.op .mv [(.tmp 8)] (some 10) true), (.op .mv [(.tmp 10)] (some 5) true)] false) (.seq (.region [(.op .mv [(.tmp 1)] (some 11) true), (.op .mv [(.tmp 0)] (some 12) true), (.op .mv [(.tmp 5)] (some 13) true), (.op (.iaddr 2) [(.tmp 12), (.tmp 13)] (some 14) true), (.op (.loadN 2) [(.tmp 14)] (some 15) true), (.pc (.tmp 11) [(.tmp 15)] (some 16) true)] false) (.cond (.tmp 16) (.seq (.region [(.op .mv [(.tmp 5)] (some 17) true), (.op .mv [(.tmp 17)] (some 4) true)] false) .ret) .skip)))) (.region [(.op (.bin .add) [(.tmp 8), (.const (.int .i64 1))] (some 18) true), (.op .mv [(.tmp 18)] (some 8) true)] false))))
-- slices.IndexFunc[[]impl.Slot,impl.Slot]
def F294 : EF := ⟨(.seq (.region [(.op .mv [(.const (.int .i64 0))] (some 4) true)] false) (.seq (.seq (.region [(.op .mv [(.tmp 0)] (some 6) true), (.op .len [(.tmp 6)] (some 7) true), (.op .mv [(.const (.int .i64 0))] (some 8) true)] false) (.block 0 (.loop H294_2 L294_2))) (.seq (.region [(.op .mv [(.const (.int .i64 (-1)))] (some 4) true)] false) .ret))), [(.tmp 4)], 19, .one, none⟩
theorem t294 : T 294 = some F294 := tab Try.func294 (by kernel_rfl) rfl
-- impl.SlotOf$1
def F295 : EF := ⟨(.seq (.region [(.op (.box 2) [(.tmp 0)] (some 2) true), (.op .mv [(.const (.bool false))] (some 3) true)] false) (.seq (.region [(.op (.faddr 0) [(.tmp 2)] (some 4) true), (.op .load1 [(.tmp 4)] (some 5) true), (.op .load1 [(.tmp 1)] (some 6) true), (.op (.bin .eql) [(.tmp 5), (.tmp 6)] (some 7) true), (.op .mv [(.tmp 7)] (some 3) true)] false) .ret)), [(.tmp 3)], 8, .one, none⟩
theorem t295 : T 295 = some F295 := tab Try.func295 (by kernel_rfl) rfl
def H153_4 : List Vw := [.tidy [1, 3] [(1, none), (3, none)]]
theorem h153_4 (b : Nat) (s : St) : vwL b H153_4 s = vwL b [.tidy [1, 3] [(1, none), (3, none)]] s := rfl
def L153_4 : EC := (.seq (.seq (.region [(.op .mv [(.tmp 3)] (some 21) true), (.op (.faddr 2) [(.tmp 1)] (some 22) true), (.op .load1 [(.tmp 22)] (some 23) true), (.op .len [(.tmp 23)] (some 24) true), (.op (.bin .lss) [(.tmp 21), (.tmp 24)] (some 25) true)] false) (.cond (.tmp 25) .skip (.exit 0))) (.seq (.block 1 (.seq (.region [(.op (.faddr 2) [(.tmp 1)] (some 28) true), (.op .load1 [(.tmp 28)] (some 29) true), (.op .mv [(.tmp 3)] (some 30) true), (.op (.iaddr 3) [(.tmp 29), (.tmp 30)] (some 31) true), (.op (.loadN 3) [(.tmp 31)] (some 32) true), (.pc (.const (.fn 220 [])) [(.tmp 32)] (some 33) true), (.op .not [(.tmp 33)] (some 34) true)] false) (.cond (.tmp 34) (.seq (.region [(.op .mv [(.const (.bool false))] (some 2) true)] false) .ret) .skip))) (.region [(.op .mv [(.tmp 3)] (some 26) true), (.op (.bin .add) [(.tmp 26), (.const (.int .i64 1))] (some 27) true), (.op .mv [(.tmp 27)] (some 3) true)] false)))
def H153_10 : List Vw := [.tidy [1, 4] [(1, none), (4, none)]]
theorem h153_10 (b : Nat) (s : St) : vwL b H153_10 s = vwL b [.tidy [1, 4] [(1, none), (4, none)]] s := rfl
def L153_10 : EC := (.seq (.seq (.region [(.op .mv [(.tmp 4)] (some 35) true), (.op (.faddr 3) [(.tmp 1)] (some 36) true), (.op .load1 [(.tmp 36)] (some 37) true), (.op .len [(.tmp 37)] (some 38) true), (.op (.bin .lss) [(.tmp 35), (.tmp 38)] (some 39) true)] false) (.cond (.tmp 39) .skip (.exit 2))) (.seq (.block 3 (.seq (.region [(.op (.faddr 3) [(.tmp 1)] (some 42) true), (.op .load1 [(.tmp 42)] (some 43) true), (.op .mv [(.tmp 4)] (some 44) true), (.op (.iaddr 3) [(.tmp 43), (.tmp 44)] (some 45) true), (.op (.loadN 3) [(.tmp 45)] (some 46) true), (.pc (.const (.fn 221 [])) [(.tmp 46)] (some 47) true), (.op .not [(.tmp 47)] (some 48) true)] false) (.cond (.tmp 48) (.seq (.region [(.op .mv [(.const (.bool false))] (some 2) true)] false) .ret) .skip))) (.region [(.op .mv [(.tmp 4)] (some 40) true), (.op (.bin .add) [(.tmp 40), (.const (.int .i64 1))] (some 41) true), (.op .mv [(.tmp 41)] (some 4) true)] false)))
-- spec.DiskOk
def F153 : EF := ⟨(.seq (.region [(.op (.box 4) [(.tmp 0)] (some 1) true), (.op .mv [(.const (.bool false))] (some 2) true)] false) (.seq (.seq (.region [(.op (.faddr 0) [(.tmp 1)] (some 5) true), (.op (.loadN 2) [(.tmp 5)] (some 6) true), (.pc (.const (.fn 219 [])) [(.tmp 6)] (some 7) true), (.op .not [(.tmp 7)] (some 8) true), (.op .mv [(.tmp 8)] (some 9) true), (.grp 9 false [(.op (.faddr 2) [(.tmp 1)] (some 10) true), (.op .load1 [(.tmp 10)] (some 11) true), (.op .len [(.tmp 11)] (some 12) true), (.op (.bin .neq) [(.tmp 12), (.const (.int .i64 8))] (some 13) true)] 13 14 true), (.op .mv [(.tmp 14)] (some 15) true), (.grp 15 false [(.op (.faddr 3) [(.tmp 1)] (some 16) true), (.op .load1 [(.tmp 16)] (some 17) true), (.op .len [(.tmp 17)] (some 18) true), (.op (.bin .neq) [(.tmp 18), (.const (.int .i64 16))] (some 19) true)] 19 20 true)] false) (.cond (.tmp 20) (.seq (.region [(.op .mv [(.const (.bool false))] (some 2) true)] false) .ret) .skip)) (.seq (.seq (.region [(.op .mv [(.const (.int .i64 0))] (some 3) true)] false) (.block 0 (.loop H153_4 L153_4))) (.seq (.seq (.region [(.op .mv [(.const (.int .i64 0))] (some 4) true)] false) (.block 2 (.loop H153_10 L153_10))) (.seq (.region [(.op .mv [(.const (.bool true))] (some 2) true)] false) .ret))))), [(.tmp 2)], 49, .one, none⟩
theorem t153 : T 153 = some F153 := tab Try.func153 (by kernel_rfl) rfl
def H155_2 : List Vw := [.tidy [1, 8, 9, 10] [(1, none), (8, none), (9, none), (10, none)]]
theorem h155_2 (b : Nat) (s : St) : vwL b H155_2 s = vwL b [.tidy [1, 8, 9, 10] [(1, none), (8, none), (9, none), (10, none)]] s := rfl
def L155_2 : EC := (.seq (.region [(.op (.bin .lss) [(.tmp 10), (.tmp 9)] (some 11) true)] false) (.seq (.cond (.tmp 11) .skip (.exit 0)) (.seq (.block 1 (.seq (.region [(.op (.iaddr 3) [(.tmp 8), (.tmp 10)] (some 12) true), (.op (.loadN 3) [(.tmp 12)] (some 13) true), (.op (.alloc (.agg [(.int .i64 0), (.int .i64 0), .nil])) [] (some 4) true), (.op (.storeN 3) [(.tmp 4), (.tmp 13)] none true)] false) (.seq (.region [(.op (.loadN 3) [(.tmp 4)] (some 14) true), (.pc (.const (.fn 223 [])) [(.tmp 14)] (some 15) true), (.op .not [(.tmp 15)] (some 16) true)] false) (.cond (.tmp 16) (.seq (.region [(.op .mv [(.const (.bool false))] (some 2) true)] false) .ret) .skip)))) (.region [(.op (.bin .add) [(.tmp 10), (.const (.int .i64 1))] (some 17) true), (.op .mv [(.tmp 17)] (some 10) true)] false))))
def H155_9 : List Vw := [.tidy [1, 19, 20, 21] [(1, none), (19, none), (20, none), (21, none)]]
theorem h155_9 (b : Nat) (s : St) : vwL b H155_9 s = vwL b [.tidy [1, 19, 20, 21] [(1, none), (19, none), (20, none), (21, none)]] s := rfl
def L155_9 : EC := (.seq (.region [(.op (.bin .lss) [(.tmp 21), (.tmp 20)] (some 22) true)] false) (.seq (.cond (.tmp 22) .skip (.exit 2)) (.seq (.block 3 (.seq (.region [(.op (.iaddr 3) [(.tmp 19), (.tmp 21)] (some 23) true), (.op (.loadN 3) [(.tmp 23)] (some 24) true), (.op (.alloc (.agg [(.bool false), .nil, (.str ⟨#[]⟩)])) [] (some 6) true), (.op (.storeN 3) [(.tmp 6), (.tmp 24)] none true)] false) (.seq (.region [(.op (.loadN 3) [(.tmp 6)] (some 25) true), (.pc (.const (.fn 224 [])) [(.tmp 25)] (some 26) true), (.op .not [(.tmp 26)] (some 27) true)] false) (.cond (.tmp 27) (.seq (.region [(.op .mv [(.const (.bool false))] (some 2) true)] false) .ret) .skip)))) (.region [(.op (.bin .add) [(.tmp 21), (.const (.int .i64 1))] (some 28) true), (.op .mv [(.tmp 28)] (some 21) true)] false))))
-- impl.DiskOk
def F155 : EF := ⟨(.seq (.region [(.op (.box 4) [(.tmp 0)] (some 1) true), (.op .mv [(.const (.bool false))] (some 2) true)] false) (.seq (.seq (.region [(.op (.faddr 2) [(.tmp 1)] (some 7) true), (.op .load1 [(.tmp 7)] (some 8) true), (.op .len [(.tmp 8)] (some 9) true), (.op .mv [(.const (.int .i64 0))] (some 10) true)] false) (.block 0 (.loop H155_2 L155_2))) (.seq (.seq (.region [(.op (.faddr 3) [(.tmp 1)] (some 18) true), (.op .load1 [(.tmp 18)] (some 19) true), (.op .len [(.tmp 19)] (some 20) true), (.op .mv [(.const (.int .i64 0))] (some 21) true)] false) (.block 2 (.loop H155_9 L155_9))) (.seq (.region [(.op (.faddr 0) [(.tmp 1)] (some 29) true), (.op (.loadN 2) [(.tmp 29)] (some 30) true), (.pc (.const (.fn 225 [])) [(.tmp 30)] (some 31) true), (.op .mv [(.tmp 31)] (some 32) true), (.grp 32 true [(.op (.faddr 2) [(.tmp 1)] (some 33) true), (.op .load1 [(.tmp 33)] (some 34) true), (.op .len [(.tmp 34)] (some 35) true), (.op (.bin .eql) [(.tmp 35), (.const (.int .i64 8))] (some 36) true)] 36 37 true), (.op .mv [(.tmp 37)] (some 38) true), (.grp 38 true [(.op (.faddr 3) [(.tmp 1)] (some 39) true), (.op .load1 [(.tmp 39)] (some 40) true), (.op .len [(.tmp 40)] (some 41) true), (.op (.bin .eql) [(.tmp 41), (.const (.int .i64 16))] (some 42) true)] 42 43 true), (.op .mv [(.tmp 43)] (some 2) true)] false) .ret)))), [(.tmp 2)], 44, .one, none⟩
theorem t155 : T 155 = some F155 := tab Try.func155 (by kernel_rfl) rfl
end Go.Proofs.Ytaaajjinpppgeaa
/- What is right: names, inodes. Own work; no condition. -/
set_option linter.unusedVariables false
set_option linter.unusedSimpArgs false
set_option linter.unusedSectionVars false
namespace Go.Proofs.Ytaaajjinpppgeaa
open Go Go.Abs
set_option maxRecDepth 100000
theorem e219 (a b : List Bool) : E T 219 [.agg [.ro 1 (a.map bv), .ro 1 (b.map bv)]] [] = some (.bool (decide (a.length = 16) && decide (b.length = 8)), []) := by
  rw [E_eq t219 (Nat.le_of_ble_eq_true rfl)]
  simp only [F219, go_sem, seval, bnd_ite]
  by_cases h1 : a.length = 16 <;> by_cases h2 : b.length = 8 <;> simp [h1, h2] <;> omega
theorem e225 (a b : List Bool) : E T 225 [.agg [.ro 1 (a.map bv), .ro 1 (b.map bv)]] [] = some (.bool (decide (a.length = 16) && decide (b.length = 8)), []) := by
  rw [E_eq t225 (Nat.le_of_ble_eq_true rfl)]
  simp only [F225, go_sem, seval, bnd_ite]
  by_cases h1 : a.length = 16 <;> by_cases h2 : b.length = 8 <;> simp [h1, h2] <;> omega
theorem e226 (x : Int) : E T 226 [.int .i64 x] [] = some (.bool (inside x 1 16), []) := by
  rw [E_eq t226 (Nat.le_of_ble_eq_true rfl)]
  simp only [F226, go_sem, seval, bnd_ite, e117i]
theorem e227 (x : Int) : E T 227 [.int .i64 x] [] = some (.bool (inside x 1 8), []) := by
  rw [E_eq t227 (Nat.le_of_ble_eq_true rfl)]
  simp only [F227, go_sem, seval, bnd_ite, e117i]
/-- A sign of a name. -/
def sgn (c : UInt8) : Bool := inside c.toNat 97 122 || inside c.toNat 48 57
def nameOk (s : ByteArray) : Bool := s.data.toList.all sgn && inside s.size 1 6
theorem ba_len (s : ByteArray) : s.data.toList.length = s.size := Array.length_toList
theorem e222 (s : ByteArray) (hl : s.size ≤ maxLen) : E T 222 [.str s] [] = some (.bool (nameOk s), []) := by
  rw [E_eq t222 (Nat.le_of_ble_eq_true rfl)]
  have hn := ba_len s
  unfold maxLen at hl
  refine (XL_all (T := T) (b := 0) (hd := H222_2) (x := L222_2) s.data.toList sgn (fun i => ⟨[(0, .str s), (3, .int .i64 (i : Nat))], []⟩)
    (fun r => r.1 = .exit 0 ∧ lookA r.2.env 0 = .str s) (fun r => r.1 = .ret ∧ lookA r.2.env 2 = .bool false) ?step ?hit ?last).elim ?main
  case step =>
    intro i c hc hi hp _
    have hi1 : (i : Int) < (s.size : Int) := by omega
    have gc : s.data.toList.getD i 0 = c := by simp [List.getD, hc]
    simp only [XG, L222_2, h222_2, go_sem, seval, bnd_ite, hi1, Int.toNat_natCast, gc, Int.natCast_nonneg, w_i64 ((i : Int) + 1) (by omega)]
    have hf : ((decide ((c.toNat : Int) < 97) || decide (122 < (c.toNat : Int))) && (decide ((c.toNat : Int) < 48) || decide (57 < (c.toNat : Int)))) = false := by
      rw [← Bool.not_eq_true]; intro h
      simp only [sgn, inside, Bool.or_eq_true, Bool.and_eq_true, decide_eq_true_eq] at hp h
      omega
    rw [hf]; simp only [Bool.false_eq_true, if_false]
    rfl
  case hit =>
    intro i c hc hi hp _
    have hi1 : (i : Int) < (s.size : Int) := by omega
    have gc : s.data.toList.getD i 0 = c := by simp [List.getD, hc]
    have hf : ((decide ((c.toNat : Int) < 97) || decide (122 < (c.toNat : Int))) && (decide ((c.toNat : Int) < 48) || decide (57 < (c.toNat : Int)))) = true := by
      simp only [sgn, inside, Bool.or_eq_false_iff, Bool.and_eq_false_iff, decide_eq_false_iff_not] at hp
      simp only [Bool.or_eq_true, Bool.and_eq_true, decide_eq_true_eq]
      omega
    simp only [XG, L222_2, h222_2, go_sem, seval, bnd_ite, hi1, Int.toNat_natCast, gc, Int.natCast_nonneg, w_i64 ((i : Int) + 1) (by omega), hf, if_true]
    exact .mk (by simp) ⟨rfl, rfl⟩
  case last =>
    intro _
    simp only [XG, L222_2, h222_2, go_sem, seval, bnd_ite, hn, Int.lt_irrefl, decide_false]
    exact .mk (by simp) ⟨rfl, rfl⟩
  case main =>
  rintro ⟨y, e, m⟩ ⟨k1, k2⟩
  have hs : ((0 : Nat) : Int) = 0 := rfl
  simp only [hs] at k1
  unfold nameOk
  rcases k2 with ⟨h, k2, k3⟩ | ⟨h, k2, k3⟩ <;> simp only at k2 k3 <;> subst k2
  · simp only [F222, h222_2, go_sem, seval, bnd_ite, k1, k3, e116i, h, Bool.true_and]
  · simp only [F222, h222_2, go_sem, seval, bnd_ite, k1, k3, h, Bool.false_and]
theorem e230 (s : ByteArray) (hl : s.size ≤ maxLen) : E T 230 [.str s] [] = some (.bool (nameOk s), []) := by
  rw [E_eq t230 (Nat.le_of_ble_eq_true rfl)]
  have hn := ba_len s
  unfold maxLen at hl
  refine (XL_all (T := T) (b := 0) (hd := H230_2) (x := L230_2) s.data.toList sgn (fun i => ⟨[(0, .str s), (5, .int .i64 s.size), (6, .int .i64 (i : Nat))], []⟩)
    (fun r => r.1 = .exit 0 ∧ lookA r.2.env 0 = .str s) (fun r => r.1 = .ret ∧ lookA r.2.env 2 = .bool false) ?step ?hit ?last).elim ?main
  case step =>
    intro i c hc hi hp _
    have hi1 : (i : Int) < (s.size : Int) := by omega
    have gc : s.data.toList.getD i 0 = c := by simp [List.getD, hc]
    have hw : (c.toNat : Int) ≤ 255 := by have := c.toNat_lt; omega
    simp only [sgn] at hp
    have hf : (!inside (c.toNat : Int) 97 122 && !inside (c.toNat : Int) 48 57) = false := by
      rw [← Bool.not_or, hp]; rfl
    simp only [XG, L230_2, h230_2, go_sem, seval, bnd_ite, hi1, Int.toNat_natCast, gc, Int.natCast_nonneg, w_i64 (c.toNat : Int) (by omega), w_i64 ((i : Int) + 1) (by omega), e117i, hf, Bool.false_eq_true, if_false]
    rfl
  case hit =>
    intro i c hc hi hp _
    have hi1 : (i : Int) < (s.size : Int) := by omega
    have gc : s.data.toList.getD i 0 = c := by simp [List.getD, hc]
    have hw : (c.toNat : Int) ≤ 255 := by have := c.toNat_lt; omega
    simp only [sgn] at hp
    have hf : (!inside (c.toNat : Int) 97 122 && !inside (c.toNat : Int) 48 57) = true := by
      rw [← Bool.not_or, hp]; rfl
    simp only [XG, L230_2, h230_2, go_sem, seval, bnd_ite, hi1, Int.toNat_natCast, gc, Int.natCast_nonneg, w_i64 (c.toNat : Int) (by omega), w_i64 ((i : Int) + 1) (by omega), e117i, hf, if_true]
    exact .mk (by simp) ⟨rfl, rfl⟩
  case last =>
    intro _
    simp only [XG, L230_2, h230_2, go_sem, seval, bnd_ite, hn, Int.lt_irrefl, decide_false]
    exact .mk (by simp) ⟨rfl, rfl⟩
  case main =>
  rintro ⟨y, e, m⟩ ⟨k1, k2⟩
  have hs : ((0 : Nat) : Int) = 0 := rfl
  simp only [hs] at k1
  unfold nameOk
  rcases k2 with ⟨h, k2, k3⟩ | ⟨h, k2, k3⟩ <;> simp only at k2 k3 <;> subst k2
  · simp only [F230, h230_2, go_sem, seval, bnd_ite, k1, k3, e117i, h, Bool.true_and]
  · simp only [F230, h230_2, go_sem, seval, bnd_ite, k1, k3, h, Bool.false_and]
end Go.Proofs.Ytaaajjinpppgeaa
/- What is right: inodes; the place of a name. Own work; no condition. -/
set_option linter.unusedVariables false
set_option linter.unusedSimpArgs false
set_option linter.unusedSectionVars false
namespace Go.Proofs.Ytaaajjinpppgeaa
open Go Go.Abs
set_option maxRecDepth 100000
def ptrOk (k p : Int) : Bool := inside p 0 16 && !(decide (k = 0) && decide (p ≠ 0))
def inoOk (x : Ino) : Bool := x.ptrs.all (ptrOk x.kind) && (inside x.kind 0 2 && inside x.links 0 200 && decide (x.ptrs.length = 2) && (!decide (x.kind = 0) || decide (x.links = 0)))
theorem e223 (x : Ino) (hk : x.ok) : E T 223 [ino x] [] = some (.bool (inoOk x), []) := by
  rw [E_eq t223 (Nat.le_of_ble_eq_true rfl)]
  unfold Ino.ok maxLen at hk
  refine (XL_all (T := T) (b := 0) (hd := H223_2) (x := L223_2) x.ptrs (ptrOk x.kind) (fun i => ⟨[(1, .ptr 0 0 0), (6, .ro 1 (x.ptrs.map iv)), (7, .int .i64 x.ptrs.length), (8, .int .i64 (i : Nat))], [some (3, [.agg [.int .i64 x.kind, .int .i64 x.links, .ro 1 (x.ptrs.map iv)]])]⟩)
    (fun r => r.1 = .exit 0 ∧ lookA r.2.env 1 = .ptr 0 0 0 ∧ r.2.mem = [some (3, [.agg [.int .i64 x.kind, .int .i64 x.links, .ro 1 (x.ptrs.map iv)]])]) (fun r => r.1 = .ret ∧ lookA r.2.env 2 = .bool false) ?step ?hit ?last).elim ?main
  case step =>
    intro i p hp hi hP _
    have hi1 : (i : Int) < (x.ptrs.length : Int) := by omega
    have gp : (x.ptrs.map iv).getD i .undef = .int .i64 p := gD_map hp
    have hf : (!inside p 0 16 || !decide (p = 0) && decide (x.kind = 0)) = false := by
      simp only [ptrOk, Bool.and_eq_true, Bool.not_eq_true'] at hP
      rw [hP.1]; rw [Bool.and_comm]; simpa using hP.2
    simp only [XG, L223_2, h223_2, go_sem, seval, bnd_ite, hi1, gp, Int.natCast_nonneg, w_i64 ((i : Int) + 1) (by omega), e117i, hf, Bool.false_eq_true, if_false]
    rfl
  case hit =>
    intro i p hp hi hP _
    have hi1 : (i : Int) < (x.ptrs.length : Int) := by omega
    have gp : (x.ptrs.map iv).getD i .undef = .int .i64 p := gD_map hp
    have hf : (!inside p 0 16 || !decide (p = 0) && decide (x.kind = 0)) = true := by
      unfold ptrOk at hP
      cases h1 : inside p 0 16 with
      | false => rfl
      | true => rw [h1, Bool.true_and] at hP; rw [Bool.and_comm]; simpa using hP
    simp only [XG, L223_2, h223_2, go_sem, seval, bnd_ite, hi1, gp, Int.natCast_nonneg, w_i64 ((i : Int) + 1) (by omega), e117i, hf, if_true]
    exact .mk (by simp) ⟨rfl, rfl⟩
  case last =>
    intro _
    simp only [XG, L223_2, h223_2, go_sem, seval, bnd_ite, Int.lt_irrefl, decide_false]
    exact .mk (by simp) ⟨rfl, rfl, rfl⟩
  case main =>
  rintro ⟨y, e, m⟩ ⟨k1, k2⟩
  have hs : ((0 : Nat) : Int) = 0 := rfl
  simp only [hs] at k1
  unfold inoOk
  rcases k2 with ⟨h, k2, k3⟩ | ⟨h, k2, k3⟩ <;> simp only at k2 k3 <;> subst k2
  · obtain ⟨k3, rfl⟩ := k3
    simp only [ino, F223, h223_2, go_sem, seval, bnd_ite, k1, k3, e117i, h, Bool.true_and]
    have hl : decide ((x.ptrs.length : Int) = 2) = decide (x.ptrs.length = 2) := by congr 1; apply propext; omega
    rw [hl]
  · simp only [ino, F223, h223_2, go_sem, seval, bnd_ite, k1, k3, h, Bool.false_and]
theorem e220 (x : Ino) (hk : x.ok) : E T 220 [ino x] [] = some (.bool (inoOk x), []) := by
  rw [E_eq t220 (Nat.le_of_ble_eq_true rfl)]
  unfold Ino.ok maxLen at hk
  have hl : decide ((x.ptrs.length : Int) = 2) = decide (x.ptrs.length = 2) := by congr 1; apply propext; omega
  by_cases hc : (inside x.kind 0 2 && inside x.links 0 200 && decide (x.ptrs.length = 2)) = true
  case neg =>
    have hf : (!inside x.kind 0 2 || !inside x.links 0 200 || !decide (x.ptrs.length = 2)) = true := by
      rw [← Bool.not_and, ← Bool.not_and, Bool.eq_false_iff.2 hc]; rfl
    have hr : inoOk x = false := by
      have hc : (inside x.kind 0 2 && inside x.links 0 200 && decide (x.ptrs.length = 2)) = false := Bool.eq_false_iff.2 hc
      unfold inoOk; rw [hc]; simp
    simp only [ino, F220, h220_4, go_sem, seval, bnd_ite, e116i, hl, hf, hr, if_true]
  have hf : (!inside x.kind 0 2 || !inside x.links 0 200 || !decide (x.ptrs.length = 2)) = false := by
    rw [← Bool.not_and, ← Bool.not_and, hc]; rfl
  have h2 : x.ptrs.length = 2 := by simp only [Bool.and_eq_true, decide_eq_true_eq] at hc; exact hc.2
  refine (XL_all (T := T) (b := 0) (hd := H220_4) (x := L220_4) x.ptrs (ptrOk x.kind) (fun i => ⟨[(1, .ptr 0 0 0), (3, .int .i64 (i : Nat))], [some (3, [.agg [.int .i64 x.kind, .int .i64 x.links, .ro 1 (x.ptrs.map iv)]])]⟩)
    (fun r => r.1 = .exit 0 ∧ lookA r.2.env 1 = .ptr 0 0 0 ∧ r.2.mem = [some (3, [.agg [.int .i64 x.kind, .int .i64 x.links, .ro 1 (x.ptrs.map iv)]])]) (fun r => r.1 = .ret ∧ lookA r.2.env 2 = .bool false) ?step ?hit ?last).elim ?main
  case step =>
    intro i p hp hi hP _
    have hi1 : (i : Int) < (x.ptrs.length : Int) := by omega
    have hi2 : (i : Int) < 2 := by omega
    have gp : (x.ptrs.map iv).getD i .undef = .int .i64 p := gD_map hp
    have hf : (!inside p 0 16 || decide (x.kind = 0) && !decide (p = 0)) = false := by
      simp only [ptrOk, Bool.and_eq_true, Bool.not_eq_true'] at hP
      rw [hP.1]; simpa using hP.2
    simp only [XG, L220_4, h220_4, go_sem, seval, bnd_ite, hi1, hi2, gp, Int.natCast_nonneg, w_i64 ((i : Int) + 1) (by omega), e116i, hf, Bool.false_eq_true, if_false]
    rfl
  case hit =>
    intro i p hp hi hP _
    have hi1 : (i : Int) < (x.ptrs.length : Int) := by omega
    have hi2 : (i : Int) < 2 := by omega
    have gp : (x.ptrs.map iv).getD i .undef = .int .i64 p := gD_map hp
    have hf : (!inside p 0 16 || decide (x.kind = 0) && !decide (p = 0)) = true := by
      unfold ptrOk at hP
      cases h1 : inside p 0 16 with
      | false => rfl
      | true => rw [h1, Bool.true_and] at hP; simpa using hP
    simp only [XG, L220_4, h220_4, go_sem, seval, bnd_ite, hi1, hi2, gp, Int.natCast_nonneg, w_i64 ((i : Int) + 1) (by omega), e116i, hf, if_true]
    exact .mk (by simp) ⟨rfl, rfl⟩
  case last =>
    intro _
    have hi2 : ¬ (x.ptrs.length : Int) < 2 := by omega
    simp only [XG, L220_4, h220_4, go_sem, seval, bnd_ite, hi2, decide_false]
    exact .mk (by simp) ⟨rfl, rfl, rfl⟩
  case main =>
  rintro ⟨y, e, m⟩ ⟨k1, k2⟩
  have hs : ((0 : Nat) : Int) = 0 := rfl
  simp only [hs] at k1
  unfold inoOk
  rcases k2 with ⟨h, k2, k3⟩ | ⟨h, k2, k3⟩ <;> simp only at k2 k3 <;> subst k2
  · obtain ⟨k3, rfl⟩ := k3
    simp only [ino, F220, h220_4, go_sem, seval, bnd_ite, k1, k3, e116i, hl, hf, hc, h, Bool.true_and, Bool.false_eq_true, if_false]
  · simp only [ino, F220, h220_4, go_sem, seval, bnd_ite, k1, k3, e116i, hl, hf, hc, h, Bool.false_and, Bool.false_eq_true, if_false]
/-- The place of a name in a row of slots: -1 where it is not there. -/
def slotOf (l : List Slt) (s : ByteArray) : Int := if s.size = 0 then -1 else (match l.findIdx? (fun x => decide (x.name = s)) with | some i => (i : Nat) | none => -1)
theorem e295 (x : Slt) (s : ByteArray) : E T 295 [slt x, .rop [.str s]] [] = some (.bool (decide (x.name = s)), []) := by
  rw [E_eq t295 (Nat.le_of_ble_eq_true rfl)]
  simp only [slt, F295, go_sem, seval, bnd_ite]
theorem e294 (l : List Slt) (s : ByteArray) (hl : l.length ≤ maxLen) : E T 294 [.ro 2 (l.map slt), .fn 295 [.rop [.str s]]] [] = some (.int .i64 (match l.findIdx? (fun x => decide (x.name = s)) with | some i => (i : Nat) | none => -1), []) := by
  rw [E_eq t294 (Nat.le_of_ble_eq_true rfl)]
  unfold maxLen at hl
  refine (XL_find (T := T) (b := 0) (hd := H294_2) (x := L294_2) l (fun x => decide (x.name = s)) (fun i => ⟨[(0, .ro 2 (l.map slt)), (1, .fn 295 [.rop [.str s]]), (7, .int .i64 l.length), (8, .int .i64 (i : Nat))], []⟩)
    (fun o r => match o with | some i => r.1 = .ret ∧ lookA r.2.env 4 = .int .i64 (i : Nat) | none => r.1 = .exit 0) ?step ?hit ?last).elim ?main
  case step =>
    intro i p hp hi hP _
    have hi1 : (i : Int) < (l.length : Int) := by omega
    have gp : (l.map slt).getD i .undef = .agg [.str p.name, .int .i64 p.ino] := gD_map hp
    have e1 := e295 p s
    unfold slt at e1
    simp only [XG, L294_2, h294_2, go_sem, seval, bnd_ite, hi1, gp, Int.natCast_nonneg, w_i64 ((i : Int) + 1) (by omega), e1, hP, Bool.false_eq_true, if_false]
    rfl
  case hit =>
    intro i p hp hi hP _
    have hi1 : (i : Int) < (l.length : Int) := by omega
    have gp : (l.map slt).getD i .undef = .agg [.str p.name, .int .i64 p.ino] := gD_map hp
    have e1 := e295 p s
    unfold slt at e1
    simp only [XG, L294_2, h294_2, go_sem, seval, bnd_ite, hi1, gp, Int.natCast_nonneg, w_i64 ((i : Int) + 1) (by omega), e1, hP, if_true]
    exact .mk (by simp) ⟨rfl, rfl⟩
  case last =>
    intro _
    simp only [XG, L294_2, h294_2, go_sem, seval, bnd_ite, Int.lt_irrefl, decide_false]
    exact .mk (by simp) rfl
  case main =>
  rintro ⟨y, e, m⟩ ⟨k1, k2⟩
  have hs : ((0 : Nat) : Int) = 0 := rfl
  simp only [hs] at k1
  split at k2
  · rename_i o i heq
    obtain ⟨k2, k3⟩ := k2
    simp only at k2 k3; subst k2
    simp only [F294, h294_2, go_sem, seval, bnd_ite, k1, k3, heq]
  · rename_i o heq
    simp only at k2; subst k2
    simp only [F294, h294_2, go_sem, seval, bnd_ite, k1, heq]
theorem e265 (x : Blk) (s : ByteArray) (hl : x.slots.length ≤ maxLen) : E T 265 [blk x, .str s] [] = some (.int .i64 (slotOf x.slots s), []) := by
  rw [E_eq t265 (Nat.le_of_ble_eq_true rfl)]
  have e1 := e294 x.slots s hl
  unfold slotOf
  by_cases h : s = ⟨#[]⟩
  · subst h
    simp only [blk, F265, go_sem, seval, bnd_ite, decide_true, if_true]
    rfl
  · have h2 : ¬ s.size = 0 := fun hh => h (by cases s with | mk a => congr 1; exact Array.eq_empty_of_size_eq_zero hh)
    simp only [blk, F265, go_sem, seval, bnd_ite, h, h2, e1, decide_false, if_false]
end Go.Proofs.Ytaaajjinpppgeaa
/- What is right: blocks. Own work; no condition. -/
set_option linter.unusedVariables false
set_option linter.unusedSimpArgs false
set_option linter.unusedSectionVars false
namespace Go.Proofs.Ytaaajjinpppgeaa
open Go Go.Abs
set_option maxRecDepth 100000
def bare (s : Slt) : Bool := decide (s.name = ⟨#[]⟩) && decide (s.ino = 0)
def newName (l : List Slt) (i : Nat) (s : Slt) : Bool := (l.take i).all fun q => !decide (q.name = s.name)
def slotOk (l : List Slt) (i : Nat) (s : Slt) : Bool := bare s || (nameOk s.name && inside s.ino 1 8 && newName l i s)
def blkOk (x : Blk) : Bool := if x.dir then x.slots.zipIdx.all (fun p => slotOk x.slots p.2 p.1) && (decide (x.slots.length = 4) && decide (x.text = ⟨#[]⟩)) else decide (x.slots.length = 0) && decide (x.text.size ≤ 16)
theorem zip_at {α : Type} {l : List α} {i : Nat} {p : α × Nat} (h : l.zipIdx[i]? = some p) : l[i]? = some p.1 ∧ p.2 = i := by
  rw [List.getElem?_zipIdx] at h
  cases e : l[i]? with
  | none => rw [e] at h; cases h
  | some x => rw [e] at h; simp at h; subst h; exact ⟨rfl, rfl⟩
theorem nameOk_ne {s : ByteArray} (h : nameOk s = true) : s.size ≠ 0 := by
  simp only [nameOk, inside, Bool.and_eq_true, decide_eq_true_eq] at h
  omega
theorem slotOf_at {l : List Slt} {i : Nat} {s : Slt} (h : l[i]? = some s) (hn : s.name.size ≠ 0) : slotOf l s.name = (i : Nat) ↔ newName l i s = true := by
  unfold slotOf newName
  rw [if_neg hn]
  obtain ⟨hi, rfl⟩ := List.getElem?_eq_some_iff.1 h
  cases e : l.findIdx? (fun x => decide (x.name = l[i].name)) with
  | none =>
    rw [find_none] at e
    have := e l[i] (List.getElem_mem hi)
    simp at this
  | some j =>
    rw [List.findIdx?_eq_some_iff_getElem] at e
    obtain ⟨hj, h1, h2⟩ := e
    simp only [decide_eq_true_eq] at h1
    constructor
    · intro hij
      have hij : ((j : Nat) : Int) = (i : Nat) := hij
      have : j = i := by omega
      subst this
      rw [List.all_eq_true]
      intro q hq
      obtain ⟨k, hk, rfl⟩ := List.mem_take_iff_getElem.1 hq
      have := h2 k (by omega)
      simpa using this
    · intro hall
      rw [List.all_eq_true] at hall
      by_cases c : j < i
      · have := hall l[j] (List.mem_take_iff_getElem.2 ⟨j, by omega, rfl⟩)
        simp [h1] at this
      · by_cases c2 : i < j
        · have := h2 i c2; simp at this
        · have : j = i := by omega
          rw [this]
theorem blk_nil {x : Blk} (h : x.dir = false) : blkOk x = (decide (x.slots.length = 0) && decide (x.text.size ≤ 16)) := by unfold blkOk; rw [h]; rfl
theorem e224 (x : Blk) (hk : x.ok) : E T 224 [blk x] [] = some (.bool (blkOk x), []) := by
  rw [E_eq t224 (Nat.le_of_ble_eq_true rfl)]
  obtain ⟨hk1, hk2, hk3⟩ := hk
  unfold maxLen at hk1
  cases hd : x.dir with
  | false =>
    rw [blk_nil hd]
    simp only [blk, F224, h224_4, go_sem, seval, bnd_ite, hd, Bool.not_false, if_true]
    by_cases h1 : x.slots.length = 0 <;> by_cases h2 : x.text.size ≤ 16 <;> simp [h1, h2] <;> omega
  | true =>
  refine (XL_all (T := T) (b := 0) (hd := H224_4) (x := L224_4) x.slots.zipIdx (fun p => slotOk x.slots p.2 p.1) (fun i => ⟨[(1, .ptr 0 0 0), (19, .ro 2 (x.slots.map slt)), (20, .int .i64 x.slots.length), (21, .int .i64 (i : Nat))], [some (3, [.agg [.bool true, .ro 2 (x.slots.map slt), .str x.text]])]⟩)
    (fun r => r.1 = .exit 0 ∧ lookA r.2.env 1 = .ptr 0 0 0 ∧ r.2.mem = [some (3, [.agg [.bool true, .ro 2 (x.slots.map slt), .str x.text]])]) (fun r => r.1 = .ret ∧ lookA r.2.env 2 = .bool false) ?step ?hit ?last).elim ?main
  case step =>
    rintro i ⟨s, j⟩ hp hi hP _
    obtain ⟨hp, hj⟩ := zip_at hp
    simp only at hp hj hP; subst hj
    rw [List.length_zipIdx] at hi
    have hi1 : (j : Int) < (x.slots.length : Int) := by omega
    have gp : (x.slots.map slt).getD j .undef = .agg [.str s.name, .int .i64 s.ino] := gD_map hp
    have hs := hk3 s (List.mem_of_getElem? hp)
    have e1 := e230 s.name hs
    have e2 := e265 x s.name hk1
    unfold blk at e2
    rw [hd] at e2
    simp only [slotOk] at hP
    cases hb : bare s with
    | true =>
      simp only [bare, Bool.and_eq_true, decide_eq_true_eq] at hb
      obtain ⟨b1, b2⟩ := hb
      simp only [XG, L224_4, h224_4, go_sem, seval, bnd_ite, hi1, gp, b1, b2, Int.natCast_nonneg, w_i64 ((j : Int) + 1) (by omega), e117i, decide_true, Bool.and_self, if_true]
      first | done | rfl
    | false =>
      rw [hb, Bool.false_or, Bool.and_eq_true, Bool.and_eq_true] at hP
      obtain ⟨⟨p1, p2⟩, p3⟩ := hP
      have p4 := (slotOf_at hp (nameOk_ne p1)).2 p3
      simp only [bare] at hb
      have e3 := e227 s.ino
      simp only [XG, L224_4, h224_4, go_sem, seval, bnd_ite, hi1, gp, e1, e2, e3, hb, p1, p2, p4, Int.natCast_nonneg, w_i64 ((j : Int) + 1) (by omega), decide_true, Bool.not_true, Bool.or_self, Bool.and_self, Bool.false_eq_true, if_false]
      first | done | rfl
  case hit =>
    rintro i ⟨s, j⟩ hp hi hP _
    obtain ⟨hp, hj⟩ := zip_at hp
    simp only at hp hj hP; subst hj
    rw [List.length_zipIdx] at hi
    have hi1 : (j : Int) < (x.slots.length : Int) := by omega
    have gp : (x.slots.map slt).getD j .undef = .agg [.str s.name, .int .i64 s.ino] := gD_map hp
    have hs := hk3 s (List.mem_of_getElem? hp)
    have e1 := e230 s.name hs
    have e2 := e265 x s.name hk1
    unfold blk at e2
    rw [hd] at e2
    have e3 := e227 s.ino
    simp only [slotOk, Bool.or_eq_false_iff] at hP
    obtain ⟨hb, hP⟩ := hP
    simp only [bare] at hb
    have hf : (!nameOk s.name || !inside s.ino 1 8 || !decide (slotOf x.slots s.name = (j : Nat))) = true := by
      cases p1 : nameOk s.name with
      | false => rfl
      | true =>
        have p4 := slotOf_at hp (nameOk_ne p1)
        rw [p1, Bool.true_and] at hP
        cases p2 : inside s.ino 1 8 with
        | false => rfl
        | true =>
          rw [p2, Bool.true_and] at hP
          have : ¬ slotOf x.slots s.name = (j : Nat) := fun h => by rw [p4.1 h] at hP; cases hP
          simp [this]
    simp only [XG, L224_4, h224_4, go_sem, seval, bnd_ite, hi1, gp, e1, e2, e3, hb, hf, Int.natCast_nonneg, w_i64 ((j : Int) + 1) (by omega), Bool.false_eq_true, if_false, if_true]
    exact .mk (by simp) ⟨rfl, rfl⟩
  case last =>
    intro _
    simp only [XG, L224_4, h224_4, go_sem, seval, bnd_ite, List.length_zipIdx, Int.lt_irrefl, decide_false]
    exact .mk (by simp) ⟨rfl, rfl, rfl⟩
  case main =>
  rintro ⟨y, e, m⟩ ⟨k1, k2⟩
  have hs : ((0 : Nat) : Int) = 0 := rfl
  simp only [hs] at k1
  unfold blkOk
  rw [hd, if_pos rfl]
  rcases k2 with ⟨h, k2, k3⟩ | ⟨h, k2, k3⟩ <;> simp only at k2 k3 <;> subst k2
  · obtain ⟨k3, rfl⟩ := k3
    have hl : decide ((x.slots.length : Int) = 4) = decide (x.slots.length = 4) := by congr 1; apply propext; omega
    simp only [blk, F224, h224_4, go_sem, seval, bnd_ite, hd, hl, k1, k3, h, Bool.true_and, Bool.not_true, Bool.false_eq_true, if_false]
  · simp only [blk, F224, h224_4, go_sem, seval, bnd_ite, hd, k1, k3, h, Bool.false_and, Bool.not_true, Bool.false_eq_true, if_false]
end Go.Proofs.Ytaaajjinpppgeaa
/- What is right: blocks by the reference, disks. Own work; no condition. -/
set_option linter.unusedVariables false
set_option linter.unusedSimpArgs false
set_option linter.unusedSectionVars false
namespace Go.Proofs.Ytaaajjinpppgeaa
open Go Go.Abs
set_option maxRecDepth 100000
/-- Whether a slot's name is there ahead of it. -/
theorem in221 (x : Blk) (s : Slt) (j : Nat) (hj : j ≤ x.slots.length) (hl : x.slots.length ≤ 4) :
    ∃ r, XL T 0 H221_13 L221_13 ⟨[(1, .ptr 0 0 0), (3, .int .i64 j), (4, .ptr 1 0 0), (5, .int .i64 0)], [some (3, [.agg [.bool true, .ro 2 (x.slots.map slt), .str x.text]]), some (2, [.agg [.str s.name, .int .i64 s.ino]])]⟩ = some r ∧
      (newName x.slots j s = true ∧ (r.1 = .exit 2 ∧ lookA r.2.env 1 = .ptr 0 0 0 ∧ lookA r.2.env 3 = .int .i64 j ∧ lookA r.2.env 4 = .ptr 1 0 0 ∧ r.2.mem = [some (3, [.agg [.bool true, .ro 2 (x.slots.map slt), .str x.text]]), some (2, [.agg [.str s.name, .int .i64 s.ino]])]) ∨
       newName x.slots j s = false ∧ (r.1 = .ret ∧ lookA r.2.env 2 = .bool false)) := by
  have hlt : (x.slots.take j).length = j := by rw [List.length_take]; omega
  refine XL_all (x.slots.take j) (fun q => !decide (q.name = s.name)) (fun i => ⟨[(1, .ptr 0 0 0), (3, .int .i64 j), (4, .ptr 1 0 0), (5, .int .i64 (i : Nat))], [some (3, [.agg [.bool true, .ro 2 (x.slots.map slt), .str x.text]]), some (2, [.agg [.str s.name, .int .i64 s.ino]])]⟩)
    (fun r => r.1 = .exit 2 ∧ lookA r.2.env 1 = .ptr 0 0 0 ∧ lookA r.2.env 3 = .int .i64 j ∧ lookA r.2.env 4 = .ptr 1 0 0 ∧ r.2.mem = [some (3, [.agg [.bool true, .ro 2 (x.slots.map slt), .str x.text]]), some (2, [.agg [.str s.name, .int .i64 s.ino]])])
    (fun r => r.1 = .ret ∧ lookA r.2.env 2 = .bool false) ?step ?hit ?last
  case step =>
    intro i p hp hi hP _
    rw [hlt] at hi
    rw [List.getElem?_take_of_lt hi] at hp
    have hi1 : (i : Int) < (j : Int) := by omega
    have hi2 : (i : Int) < (x.slots.length : Int) := by omega
    have gp : (x.slots.map slt).getD i .undef = .agg [.str p.name, .int .i64 p.ino] := gD_map hp
    have hP : decide (p.name = s.name) = false := by simpa using hP
    simp only [XG, L221_13, h221_13, go_sem, seval, bnd_ite, hi1, hi2, gp, hP, Int.natCast_nonneg, w_i64 ((i : Int) + 1) (by omega), Bool.false_eq_true, if_false]
    first | done | rfl
  case hit =>
    intro i p hp hi hP _
    rw [hlt] at hi
    rw [List.getElem?_take_of_lt hi] at hp
    have hi1 : (i : Int) < (j : Int) := by omega
    have hi2 : (i : Int) < (x.slots.length : Int) := by omega
    have gp : (x.slots.map slt).getD i .undef = .agg [.str p.name, .int .i64 p.ino] := gD_map hp
    have hP : decide (p.name = s.name) = true := by simpa using hP
    simp only [XG, L221_13, h221_13, go_sem, seval, bnd_ite, hi1, hi2, gp, hP, Int.natCast_nonneg, w_i64 ((i : Int) + 1) (by omega), if_true]
    exact .mk (by simp) ⟨rfl, rfl⟩
  case last =>
    intro _
    simp only [XG, L221_13, h221_13, go_sem, seval, bnd_ite, hlt, Int.lt_irrefl, decide_false]
    exact .mk (by simp) ⟨rfl, rfl, rfl, rfl, rfl⟩
theorem e221 (x : Blk) (hk : x.ok) : E T 221 [blk x] [] = some (.bool (blkOk x), []) := by
  rw [E_eq t221 (Nat.le_of_ble_eq_true rfl)]
  obtain ⟨hk1, hk2, hk3⟩ := hk
  unfold maxLen at hk1
  cases hd : x.dir with
  | false =>
    rw [blk_nil hd]
    simp only [blk, F221, h221_6, go_sem, seval, bnd_ite, hd, Bool.not_false, if_true]
    by_cases h1 : x.slots.length = 0 <;> by_cases h2 : x.text.size ≤ 16 <;> simp [h1, h2] <;> omega
  | true =>
  have hl : decide ((x.slots.length : Int) = 4) = decide (x.slots.length = 4) := by congr 1; apply propext; omega
  by_cases hc : (decide (x.slots.length = 4) && decide (x.text = ⟨#[]⟩)) = true
  case neg =>
    have hf : (!decide (x.slots.length = 4) || !decide (x.text = ⟨#[]⟩)) = true := by
      rw [← Bool.not_and, Bool.eq_false_iff.2 hc]; rfl
    have hr : blkOk x = false := by
      unfold blkOk; rw [hd, if_pos rfl, Bool.eq_false_iff.2 hc, Bool.and_false]
    simp only [blk, F221, h221_6, go_sem, seval, bnd_ite, hd, hl, hf, hr, Bool.not_true, Bool.false_eq_true, if_true, if_false]
  have hf : (!decide (x.slots.length = 4) || !decide (x.text = ⟨#[]⟩)) = false := by
    rw [← Bool.not_and, hc]; rfl
  have h2 : x.slots.length = 4 := by simp only [Bool.and_eq_true, decide_eq_true_eq] at hc; exact hc.1
  refine (XL_all (T := T) (b := 0) (hd := H221_6) (x := L221_6) x.slots.zipIdx (fun p => slotOk x.slots p.2 p.1) (fun i => ⟨[(1, .ptr 0 0 0), (3, .int .i64 (i : Nat))], [some (3, [.agg [.bool true, .ro 2 (x.slots.map slt), .str x.text]])]⟩)
    (fun r => r.1 = .exit 0) (fun r => r.1 = .ret ∧ lookA r.2.env 2 = .bool false) ?step ?hit ?last).elim ?main
  case step =>
    rintro i ⟨s, j⟩ hp hi hP _
    obtain ⟨hp, hj⟩ := zip_at hp
    simp only at hp hj hP; subst hj
    rw [List.length_zipIdx] at hi
    have hi1 : (j : Int) < (x.slots.length : Int) := by omega
    have hi2 : (j : Int) < 4 := by omega
    have gp : (x.slots.map slt).getD j .undef = .agg [.str s.name, .int .i64 s.ino] := gD_map hp
    have hs := hk3 s (List.mem_of_getElem? hp)
    have e1 := e222 s.name hs
    simp only [slotOk] at hP
    cases hb : bare s with
    | true =>
      simp only [bare] at hb
      simp only [XG, L221_6, h221_6, go_sem, seval, bnd_ite, hi1, hi2, gp, hb, Int.natCast_nonneg, w_i64 ((j : Int) + 1) (by omega), if_true]
      first | done | rfl
    | false =>
      rw [hb, Bool.false_or, Bool.and_eq_true, Bool.and_eq_true] at hP
      obtain ⟨⟨p1, p2⟩, p3⟩ := hP
      simp only [bare] at hb
      obtain ⟨⟨y, e, m⟩, k1, k2⟩ := in221 x s j (by omega) (by omega)
      rcases k2 with ⟨h, kx, k3, k4, k5, km⟩ | ⟨h, _⟩
      · simp only at kx k3 k4 k5 km; subst kx; subst km
        simp only [XG, L221_6, h221_6, h221_13, go_sem, seval, bnd_ite, hi1, hi2, gp, e1, e116i, hb, p1, p2, k1, k3, k4, k5, Int.natCast_nonneg, w_i64 ((j : Int) + 1) (by omega), Bool.not_true, Bool.or_self, Bool.false_eq_true, if_false]
        first | done | rfl
      · rw [p3] at h; cases h
  case hit =>
    rintro i ⟨s, j⟩ hp hi hP _
    obtain ⟨hp, hj⟩ := zip_at hp
    simp only at hp hj hP; subst hj
    rw [List.length_zipIdx] at hi
    have hi1 : (j : Int) < (x.slots.length : Int) := by omega
    have hi2 : (j : Int) < 4 := by omega
    have gp : (x.slots.map slt).getD j .undef = .agg [.str s.name, .int .i64 s.ino] := gD_map hp
    have hs := hk3 s (List.mem_of_getElem? hp)
    have e1 := e222 s.name hs
    simp only [slotOk, Bool.or_eq_false_iff] at hP
    obtain ⟨hb, hP⟩ := hP
    simp only [bare] at hb
    cases hf : (!nameOk s.name || !inside s.ino 1 8) with
    | true =>
      simp only [XG, L221_6, h221_6, go_sem, seval, bnd_ite, hi1, hi2, gp, e1, e116i, hb, hf, Int.natCast_nonneg, w_i64 ((j : Int) + 1) (by omega), Bool.false_eq_true, if_false, if_true]
      exact .mk (by simp) ⟨rfl, rfl⟩
    | false =>
      obtain ⟨⟨y, e, m⟩, k1, k2⟩ := in221 x s j (by omega) (by omega)
      have p3 : newName x.slots j s = false := by
        rw [← Bool.not_and, Bool.not_eq_false'] at hf
        rw [hf, Bool.true_and] at hP; exact hP
      rcases k2 with ⟨h, _⟩ | ⟨h, kx, k3⟩
      · rw [p3] at h; cases h
      · simp only at kx k3; subst kx
        simp only [XG, L221_6, h221_6, h221_13, go_sem, seval, bnd_ite, hi1, hi2, gp, e1, e116i, hb, hf, k1, k3, Int.natCast_nonneg, w_i64 ((j : Int) + 1) (by omega), Bool.false_eq_true, if_false]
        exact .mk (by simp) ⟨rfl, k3⟩
  case last =>
    intro _
    have hi2 : ¬ (x.slots.length : Int) < 4 := by omega
    simp only [XG, L221_6, h221_6, go_sem, seval, bnd_ite, List.length_zipIdx, hi2, decide_false]
    exact .mk (by simp) rfl
  case main =>
  rintro ⟨y, e, m⟩ ⟨k1, k2⟩
  have hs : ((0 : Nat) : Int) = 0 := rfl
  simp only [hs] at k1
  unfold blkOk
  rw [hd, if_pos rfl, hc, Bool.and_true]
  rcases k2 with ⟨h, k2⟩ | ⟨h, k2, k3⟩ <;> simp only at k2 <;> subst k2
  · simp only [blk, F221, h221_6, go_sem, seval, bnd_ite, hd, hl, hf, k1, h, Bool.not_true, Bool.false_eq_true, if_false]
  · simp only at k3
    simp only [blk, F221, h221_6, go_sem, seval, bnd_ite, hd, hl, hf, k1, k3, h, Bool.not_true, Bool.false_eq_true, if_false]
def dskOk (x : Dsk) : Bool := x.inos.all inoOk && (x.blks.all blkOk && ((decide (x.used.length = 16) && decide (x.taken.length = 8)) && decide (x.inos.length = 8) && decide (x.blks.length = 16)))
end Go.Proofs.Ytaaajjinpppgeaa
