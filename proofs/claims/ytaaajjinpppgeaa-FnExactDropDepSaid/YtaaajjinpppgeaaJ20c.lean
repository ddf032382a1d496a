/- Part 3 of the texts of a claim, joined by a program of ours (Fv, Fr, Fq, Ia, Ja, Lp, Pa, Ha, Fp). No condition. -/
import Derived.Test.YtaaajjinpppgeaaJ20b
set_option linter.unusedVariables false
set_option linter.unusedSimpArgs false
set_option linter.unusedSectionVars false
/- The code of some functions, as the evaluator reads it (printed by a program of ours), checked against the program. Own work; no condition. -/
set_option linter.unusedVariables false
set_option linter.unusedSimpArgs false
set_option linter.unusedSectionVars false
namespace Go.Proofs.Ytaaajjinpppgeaa
open Go Go.Abs
set_option maxRecDepth 100000
def H158_3 : List Vw := [.opn 3 none none 2 3, .tidy [1, 2, 3, 4] [(1, none), (2, none), (3, none), (4, none), (3, some 2)]]
theorem h158_3 (b : Nat) (s : St) : vwL b H158_3 s = vwL b [.opn 3 none none 2 3, .tidy [1, 2, 3, 4] [(1, none), (2, none), (3, none), (4, none), (3, some 2)]] s := rfl
def L158_3 : EC := (.seq (.seq (.region [(.op .mv [(.tmp 4)] (some 10) true), (.op (.faddr 2) [(.tmp 1)] (some 11) true), (.op .load1 [(.tmp 11)] (some 12) true), (.op .len [(.tmp 12)] (some 13) true), (.op (.bin .lss) [(.tmp 10), (.tmp 13)] (some 14) true)] false) (.cond (.tmp 14) .skip (.exit 0))) (.seq (.block 1 (.region [(.op (.faddr 2) [(.tmp 3)] (some 17) false), (.op .load1 [(.tmp 17)] (some 18) false), (.op (.faddr 2) [(.tmp 1)] (some 19) false), (.op .load1 [(.tmp 19)] (some 20) false), (.op .mv [(.tmp 4)] (some 21) false), (.op (.iaddr 3) [(.tmp 20), (.tmp 21)] (some 22) false), (.op (.loadN 3) [(.tmp 22)] (some 23) false), (.pc (.const (.fn 142 [])) [(.tmp 23)] (some 24) false), (.op (.bslice 3 1 (.agg [(.int .i64 0), (.int .i64 0), .nil]) [0]) [(.tmp 24)] (some 25) false), (.op (.append 3 40) [(.tmp 18), (.tmp 25)] (some 26) true), (.op (.faddr 2) [(.tmp 3)] (some 27) true), (.op .store1 [(.tmp 27), (.tmp 26)] none true)] true)) (.region [(.op .mv [(.tmp 4)] (some 15) true), (.op (.bin .add) [(.tmp 15), (.const (.int .i64 1))] (some 16) true), (.op .mv [(.tmp 16)] (some 4) true)] false)))
def H158_8 : List Vw := [.opn 3 none none 3 3, .tidy [1, 2, 3, 5] [(1, none), (2, none), (3, none), (5, none), (3, some 3)]]
theorem h158_8 (b : Nat) (s : St) : vwL b H158_8 s = vwL b [.opn 3 none none 3 3, .tidy [1, 2, 3, 5] [(1, none), (2, none), (3, none), (5, none), (3, some 3)]] s := rfl
def L158_8 : EC := (.seq (.seq (.region [(.op .mv [(.tmp 5)] (some 28) true), (.op (.faddr 3) [(.tmp 1)] (some 29) true), (.op .load1 [(.tmp 29)] (some 30) true), (.op .len [(.tmp 30)] (some 31) true), (.op (.bin .lss) [(.tmp 28), (.tmp 31)] (some 32) true)] false) (.cond (.tmp 32) .skip (.exit 2))) (.seq (.block 3 (.region [(.op (.faddr 3) [(.tmp 3)] (some 35) false), (.op .load1 [(.tmp 35)] (some 36) false), (.op (.faddr 3) [(.tmp 1)] (some 37) false), (.op .load1 [(.tmp 37)] (some 38) false), (.op .mv [(.tmp 5)] (some 39) false), (.op (.iaddr 3) [(.tmp 38), (.tmp 39)] (some 40) false), (.op (.loadN 3) [(.tmp 40)] (some 41) false), (.pc (.const (.fn 147 [])) [(.tmp 41)] (some 42) false), (.op (.bslice 3 1 (.agg [(.bool false), .nil, (.str ⟨#[]⟩)]) [0]) [(.tmp 42)] (some 43) false), (.op (.append 3 48) [(.tmp 36), (.tmp 43)] (some 44) true), (.op (.faddr 3) [(.tmp 3)] (some 45) true), (.op .store1 [(.tmp 45), (.tmp 44)] none true)] true)) (.region [(.op .mv [(.tmp 5)] (some 33) true), (.op (.bin .add) [(.tmp 33), (.const (.int .i64 1))] (some 34) true), (.op .mv [(.tmp 34)] (some 5) true)] false)))
-- spec.l07Copy
def F158 : EF := ⟨(.seq (.region [(.op (.box 4) [(.tmp 0)] (some 1) true), (.op (.alloc (.agg [.nil, .nil, .nil, .nil])) [] (some 2) true)] false) (.seq (.region [(.op (.faddr 0) [(.tmp 1)] (some 6) true), (.op (.loadN 2) [(.tmp 6)] (some 7) true), (.pc (.const (.fn 233 [])) [(.tmp 7)] (some 8) true), (.op (.build [.nil, .nil, .nil, .nil] [(0, 2)]) [(.tmp 8)] (some 9) true), (.op (.alloc (.agg [.nil, .nil, .nil, .nil])) [] (some 3) true), (.op (.storeN 4) [(.tmp 3), (.tmp 9)] none true)] false) (.seq (.seq (.region [(.op .mv [(.const (.int .i64 0))] (some 4) true)] false) (.block 0 (.loop H158_3 L158_3))) (.seq (.seq (.region [(.op .mv [(.const (.int .i64 0))] (some 5) true)] false) (.block 2 (.loop H158_8 L158_8))) (.seq (.view [.opn 3 none none 0 1, .opn 3 none none 1 1, .opn 3 none none 2 3, .opn 3 none none 3 3] (.region [(.op (.loadN 4) [(.tmp 3)] (some 46) true), (.op (.storeN 4) [(.tmp 2), (.tmp 46)] none true)] false)) .ret))))), [(.cell 2 (.loadN 4))], 47, .one, none⟩
theorem t158 : T 158 = some F158 := tab Try.func158 (by kernel_rfl) rfl
def H159_3 : List Vw := [.opn 3 none none 2 3, .tidy [1, 2, 3, 13, 14, 15] [(1, none), (2, none), (3, none), (13, none), (14, none), (15, none), (3, some 2)]]
theorem h159_3 (b : Nat) (s : St) : vwL b H159_3 s = vwL b [.opn 3 none none 2 3, .tidy [1, 2, 3, 13, 14, 15] [(1, none), (2, none), (3, none), (13, none), (14, none), (15, none), (3, some 2)]] s := rfl
def L159_3 : EC := (.seq (.region [(.op (.bin .lss) [(.tmp 15), (.tmp 14)] (some 16) true)] false) (.seq (.cond (.tmp 16) .skip (.exit 0)) (.seq (.block 1 (.seq (.region [(.op (.iaddr 3) [(.tmp 13), (.tmp 15)] (some 17) true), (.op (.loadN 3) [(.tmp 17)] (some 18) true), (.op (.alloc (.agg [(.int .i64 0), (.int .i64 0), .nil])) [] (some 5) true), (.op (.storeN 3) [(.tmp 5), (.tmp 18)] none true)] false) (.region [(.op (.faddr 2) [(.tmp 3)] (some 19) false), (.op .load1 [(.tmp 19)] (some 20) false), (.op (.loadN 3) [(.tmp 5)] (some 21) false), (.pc (.const (.fn 144 [])) [(.tmp 21)] (some 22) false), (.op (.bslice 3 1 (.agg [(.int .i64 0), (.int .i64 0), .nil]) [0]) [(.tmp 22)] (some 23) false), (.op (.append 3 40) [(.tmp 20), (.tmp 23)] (some 24) true), (.op (.faddr 2) [(.tmp 3)] (some 25) true), (.op .store1 [(.tmp 25), (.tmp 24)] none true)] true))) (.region [(.op (.bin .add) [(.tmp 15), (.const (.int .i64 1))] (some 26) true), (.op .mv [(.tmp 26)] (some 15) true)] false))))
def H159_9 : List Vw := [.opn 3 none none 3 3, .tidy [2, 3, 28, 29, 30] [(2, none), (3, none), (28, none), (29, none), (30, none), (3, some 3)]]
theorem h159_9 (b : Nat) (s : St) : vwL b H159_9 s = vwL b [.opn 3 none none 3 3, .tidy [2, 3, 28, 29, 30] [(2, none), (3, none), (28, none), (29, none), (30, none), (3, some 3)]] s := rfl
def L159_9 : EC := (.seq (.region [(.op (.bin .lss) [(.tmp 30), (.tmp 29)] (some 31) true)] false) (.seq (.cond (.tmp 31) .skip (.exit 2)) (.seq (.block 3 (.seq (.region [(.op (.iaddr 3) [(.tmp 28), (.tmp 30)] (some 32) true), (.op (.loadN 3) [(.tmp 32)] (some 33) true), (.op (.alloc (.agg [(.bool false), .nil, (.str ⟨#[]⟩)])) [] (some 7) true), (.op (.storeN 3) [(.tmp 7), (.tmp 33)] none true)] false) (.region [(.op (.faddr 3) [(.tmp 3)] (some 34) false), (.op .load1 [(.tmp 34)] (some 35) false), (.op (.loadN 3) [(.tmp 7)] (some 36) false), (.pc (.const (.fn 148 [])) [(.tmp 36)] (some 37) false), (.op (.bslice 3 1 (.agg [(.bool false), .nil, (.str ⟨#[]⟩)]) [0]) [(.tmp 37)] (some 38) false), (.op (.append 3 48) [(.tmp 35), (.tmp 38)] (some 39) true), (.op (.faddr 3) [(.tmp 3)] (some 40) true), (.op .store1 [(.tmp 40), (.tmp 39)] none true)] true))) (.region [(.op (.bin .add) [(.tmp 30), (.const (.int .i64 1))] (some 41) true), (.op .mv [(.tmp 41)] (some 30) true)] false))))
-- impl.copyDisk
def F159 : EF := ⟨(.seq (.region [(.op (.box 4) [(.tmp 0)] (some 1) true), (.op (.alloc (.agg [.nil, .nil, .nil, .nil])) [] (some 2) true)] false) (.seq (.region [(.op (.faddr 0) [(.tmp 1)] (some 8) true), (.op (.loadN 2) [(.tmp 8)] (some 9) true), (.pc (.const (.fn 199 [])) [(.tmp 9)] (some 10) true), (.op (.build [.nil, .nil, .nil, .nil] [(0, 2)]) [(.tmp 10)] (some 11) true), (.op (.alloc (.agg [.nil, .nil, .nil, .nil])) [] (some 3) true), (.op (.storeN 4) [(.tmp 3), (.tmp 11)] none true)] false) (.seq (.seq (.region [(.op (.faddr 2) [(.tmp 1)] (some 12) true), (.op .load1 [(.tmp 12)] (some 13) true), (.op .len [(.tmp 13)] (some 14) true), (.op .mv [(.const (.int .i64 0))] (some 15) true)] false) (.block 0 (.loop H159_3 L159_3))) (.seq (.seq (.region [(.op (.faddr 3) [(.tmp 1)] (some 27) true), (.op .load1 [(.tmp 27)] (some 28) true), (.op .len [(.tmp 28)] (some 29) true), (.op .mv [(.const (.int .i64 0))] (some 30) true)] false) (.block 2 (.loop H159_9 L159_9))) (.seq (.view [.opn 3 none none 0 1, .opn 3 none none 1 1, .opn 3 none none 2 3, .opn 3 none none 3 3] (.region [(.op (.loadN 4) [(.tmp 3)] (some 42) true), (.op (.storeN 4) [(.tmp 2), (.tmp 42)] none true)] false)) .ret))))), [(.cell 2 (.loadN 4))], 43, .one, none⟩
theorem t159 : T 159 = some F159 := tab Try.func159 (by kernel_rfl) rfl
-- impl.copyBits
def F199 : EF := ⟨(.seq (.region [(.op (.box 2) [(.tmp 0)] (some 1) true), (.op (.alloc (.agg [.nil, .nil])) [] (some 2) true)] false) (.seq (.region [(.op (.faddr 0) [(.tmp 1)] (some 3) false), (.op .load1 [(.tmp 3)] (some 4) false), (.pc (.const (.fn 238 [])) [(.tmp 4)] (some 5) false), (.op (.faddr 1) [(.tmp 1)] (some 6) false), (.op .load1 [(.tmp 6)] (some 7) false), (.pc (.const (.fn 238 [])) [(.tmp 7)] (some 8) true), (.op (.build [.nil, .nil] [(0, 1), (1, 1)]) [(.tmp 5), (.tmp 8)] (some 9) true), (.op (.storeN 2) [(.tmp 2), (.tmp 9)] none true)] true) .ret)), [(.cell 2 (.loadN 2))], 10, (.agg [.row 1 .one, .row 1 .one]), none⟩
theorem t199 : T 199 = some F199 := tab Try.func199 (by kernel_rfl) rfl
-- spec.l05Copy
def F233 : EF := ⟨(.seq (.region [(.op (.box 2) [(.tmp 0)] (some 1) true), (.op (.alloc (.agg [.nil, .nil])) [] (some 2) true)] false) (.seq (.region [(.op (.bslice 1 0 (.bool false) []) [] (some 3) false), (.op (.faddr 0) [(.tmp 1)] (some 4) false), (.op .load1 [(.tmp 4)] (some 5) false), (.op (.append 1 1) [(.tmp 3), (.tmp 5)] (some 6) false), (.op (.bslice 1 0 (.bool false) []) [] (some 7) false), (.op (.faddr 1) [(.tmp 1)] (some 8) false), (.op .load1 [(.tmp 8)] (some 9) false), (.op (.append 1 1) [(.tmp 7), (.tmp 9)] (some 10) true), (.op (.build [.nil, .nil] [(0, 1), (1, 1)]) [(.tmp 6), (.tmp 10)] (some 11) true), (.op (.storeN 2) [(.tmp 2), (.tmp 11)] none true)] true) .ret)), [(.cell 2 (.loadN 2))], 12, (.agg [.row 1 .one, .row 1 .one]), none⟩
theorem t233 : T 233 = some F233 := tab Try.func233 (by kernel_rfl) rfl
-- impl.copyBools
def F238 : EF := ⟨(.seq (.region [(.op .mv [(.const .nil)] (some 2) true)] false) (.seq (.region [(.op (.bslice 1 0 (.bool false) []) [] (some 3) true), (.op .mv [(.tmp 0)] (some 4) true), (.op (.append 1 1) [(.tmp 3), (.tmp 4)] (some 5) true), (.op .mv [(.tmp 5)] (some 2) true)] false) .ret)), [(.tmp 2)], 6, (.row 1 .one), none⟩
theorem t238 : T 238 = some F238 := tab Try.func238 (by kernel_rfl) rfl
-- spec.MemNew
def F61 : EF := ⟨(.seq (.region [(.op (.box 4) [(.tmp 0)] (some 1) true), (.op (.alloc (.agg [.nil, .nil, .nil, .nil, .nil, .nil, (.int .i64 0)])) [] (some 2) true)] false) (.seq (.region [(.op (.loadN 4) [(.tmp 1)] (some 3) false), (.pc (.const (.fn 158 [])) [(.tmp 3)] (some 4) false), (.op (.mkslice 1 1 (.bool false)) [(.const (.int .i64 21)), (.const (.int .i64 21))] (some 5) false), (.op (.build [.nil, .nil, .nil, .nil, .nil, .nil, (.int .i64 0)] [(0, 4), (4, 1), (6, 1)]) [(.tmp 4), (.tmp 5), (.const (.int .i64 1))] (some 6) true), (.op (.storeN 7) [(.tmp 2), (.tmp 6)] none true)] true) .ret)), [(.cell 2 (.loadN 7))], 7, (.agg [.one, .one, .one, .one, .one, .row 11 .one, .one]), none⟩
theorem t61 : T 61 = some F61 := tab Try.func61 (by kernel_rfl) rfl
-- impl.MemNew
def F62 : EF := ⟨(.seq (.region [(.op (.box 4) [(.tmp 0)] (some 1) true), (.op (.alloc (.agg [.nil, .nil, .nil, .nil, .nil, .nil, (.int .i64 0)])) [] (some 2) true)] false) (.seq (.region [(.op (.loadN 4) [(.tmp 1)] (some 3) false), (.pc (.const (.fn 159 [])) [(.tmp 3)] (some 4) false), (.op (.mkslice 1 1 (.bool false)) [(.const (.int .i64 21)), (.const (.int .i64 21))] (some 5) false), (.op (.build [.nil, .nil, .nil, .nil, .nil, .nil, (.int .i64 0)] [(0, 4), (4, 1), (6, 1)]) [(.tmp 4), (.tmp 5), (.const (.int .i64 1))] (some 6) true), (.op (.storeN 7) [(.tmp 2), (.tmp 6)] none true)] true) .ret)), [(.cell 2 (.loadN 7))], 7, (.agg [.one, .one, .one, .one, .one, .row 11 .one, .one]), none⟩
theorem t62 : T 62 = some F62 := tab Try.func62 (by kernel_rfl) rfl
-- laws.FnExactMemNew
def F10 : EF := ⟨(.seq (.region [(.op (.box 4) [(.tmp 0)] (some 1) true), (.op .mv [(.const (.bool false))] (some 2) true)] false) (.seq (.region [(.op .mv [(.const (.int .i64 1048576))] (some 3) true)] false) (.seq (.region [(.op (.loadN 4) [(.tmp 1)] (some 11) true), (.op .mv [(.tmp 3)] (some 12) true), (.pc (.const (.fn 38 [])) [(.tmp 11), (.tmp 12)] (some 13) true), (.op .mv [(.tmp 13)] (some 3) true)] false) (.seq (.seq (.region [(.op .mv [(.tmp 3)] (some 14) true), (.op (.bin .lss) [(.tmp 14), (.const (.int .i64 0))] (some 15) true)] false) (.cond (.tmp 15) (.seq (.region [(.op .mv [(.const (.bool true))] (some 2) true)] false) .ret) .skip)) (.seq (.region [(.op (.loadN 4) [(.tmp 1)] (some 16) true), (.pc (.const (.fn 40 [])) [(.tmp 16)] (some 17) true), (.pc (.const (.fn 61 [])) [(.tmp 17)] (some 18) true), (.op (.alloc (.agg [.nil, .nil, .nil, .nil, .nil, .nil, (.int .i64 0)])) [] (some 4) true), (.op (.storeN 7) [(.tmp 4), (.tmp 18)] none true)] false) (.seq (.region [(.op (.loadN 4) [(.tmp 1)] (some 19) true), (.pc (.const (.fn 40 [])) [(.tmp 19)] (some 20) true), (.op (.alloc (.agg [.nil, .nil, .nil, .nil])) [] (some 5) true), (.op (.storeN 4) [(.tmp 5), (.tmp 20)] none true)] false) (.seq (.region [(.op (.loadN 4) [(.tmp 5)] (some 21) true), (.pc (.const (.fn 62 [])) [(.tmp 21)] (some 22) true), (.op (.alloc (.agg [.nil, .nil, .nil, .nil, .nil, .nil, (.int .i64 0)])) [] (some 6) true), (.op (.storeN 7) [(.tmp 6), (.tmp 22)] none true)] false) (.seq (.seq (.region [(.op (.loadN 7) [(.tmp 6)] (some 23) true), (.op (.loadN 7) [(.tmp 4)] (some 24) true), (.pc (.const (.fn 47 [])) [(.tmp 23), (.tmp 24)] (some 25) true), (.op .not [(.tmp 25)] (some 26) true)] false) (.cond (.tmp 26) (.seq (.region [(.op .mv [(.const (.bool false))] (some 2) true)] false) .ret) .skip)) (.seq (.seq (.region [(.op (.loadN 4) [(.tmp 5)] (some 27) false), (.op (.loadN 4) [(.tmp 1)] (some 28) false), (.pc (.const (.fn 40 [])) [(.tmp 28)] (some 29) false), (.pc (.const (.fn 42 [])) [(.tmp 27), (.tmp 29)] (some 30) true), (.op .not [(.tmp 30)] (some 31) true)] true) (.cond (.tmp 31) (.seq (.region [(.op .mv [(.const (.bool false))] (some 2) true)] false) .ret) .skip)) (.seq (.region [(.op .mv [(.const (.int .i64 1))] (some 7) true)] false) (.seq (.region [(.op (.loadN 4) [(.tmp 5)] (some 32) true), (.op .mv [(.tmp 7)] (some 33) true), (.sc (.const (.fn 63 [])) [(.tmp 32), (.tmp 33)] (some 34) true), (.op .mv [(.tmp 34)] (some 7) true)] false) (.seq (.seq (.region [(.op .mv [(.tmp 7)] (some 35) true), (.op (.bin .lss) [(.tmp 35), (.const (.int .i64 0))] (some 36) true), (.op .mv [(.tmp 36)] (some 37) true), (.grp 37 false [(.op (.loadN 7) [(.tmp 6)] (some 38) true), (.op (.loadN 7) [(.tmp 4)] (some 39) true), (.pc (.const (.fn 47 [])) [(.tmp 38), (.tmp 39)] (some 40) true), (.op .not [(.tmp 40)] (some 41) true)] 41 42 true)] false) (.cond (.tmp 42) (.seq (.region [(.op .mv [(.const (.bool false))] (some 2) true)] false) .ret) .skip)) (.seq (.region [(.op .mv [(.const (.int .i64 1))] (some 8) true)] false) (.seq (.region [(.op (.loadN 7) [(.tmp 6)] (some 43) true), (.op .mv [(.tmp 8)] (some 44) true), (.sc (.const (.fn 51 [])) [(.tmp 43), (.tmp 44)] (some 45) true), (.op .mv [(.tmp 45)] (some 8) true)] false) (.seq (.region [(.op .mv [(.const (.int .i64 1))] (some 9) true)] false) (.seq (.region [(.op (.loadN 7) [(.tmp 6)] (some 46) true), (.op .mv [(.tmp 9)] (some 47) true), (.pc (.const (.fn 64 [])) [(.tmp 46), (.tmp 47)] (some 48) true), (.op .mv [(.tmp 48)] (some 9) true)] false) (.seq (.seq (.region [(.op .mv [(.tmp 9)] (some 49) true), (.op (.bin .lss) [(.tmp 49), (.const (.int .i64 0))] (some 50) true)] false) (.cond (.tmp 50) (.seq (.region [(.op .mv [(.const (.bool false))] (some 2) true)] false) .ret) .skip)) (.seq (.seq (.region [(.op .mv [(.tmp 9)] (some 51) true), (.op .mv [(.tmp 8)] (some 52) true), (.op (.bin .neq) [(.tmp 51), (.tmp 52)] (some 53) true)] false) (.cond (.tmp 53) (.seq (.region [(.op .mv [(.const (.bool false))] (some 2) true)] false) .ret) .skip)) (.seq (.region [(.op (.loadN 4) [(.tmp 1)] (some 54) true), (.pc (.const (.fn 40 [])) [(.tmp 54)] (some 55) true), (.pc (.const (.fn 62 [])) [(.tmp 55)] (some 56) true), (.op (.alloc (.agg [.nil, .nil, .nil, .nil, .nil, .nil, (.int .i64 0)])) [] (some 10) true), (.op (.storeN 7) [(.tmp 10), (.tmp 56)] none true)] false) (.seq (.seq (.region [(.op (.loadN 7) [(.tmp 10)] (some 57) true), (.op (.loadN 7) [(.tmp 4)] (some 58) true), (.pc (.const (.fn 47 [])) [(.tmp 57), (.tmp 58)] (some 59) true), (.op .not [(.tmp 59)] (some 60) true)] false) (.cond (.tmp 60) (.seq (.region [(.op .mv [(.const (.bool false))] (some 2) true)] false) .ret) .skip)) (.seq (.region [(.op .mv [(.const (.int .i64 1))] (some 9) true)] false) (.seq (.region [(.op (.loadN 7) [(.tmp 6)] (some 61) true), (.op .mv [(.tmp 9)] (some 62) true), (.pc (.const (.fn 64 [])) [(.tmp 61), (.tmp 62)] (some 63) true), (.op .mv [(.tmp 63)] (some 9) true)] false) (.seq (.seq (.region [(.op .mv [(.tmp 9)] (some 64) true), (.op (.bin .lss) [(.tmp 64), (.const (.int .i64 0))] (some 65) true)] false) (.cond (.tmp 65) (.seq (.region [(.op .mv [(.const (.bool false))] (some 2) true)] false) .ret) .skip)) (.seq (.seq (.region [(.op .mv [(.tmp 9)] (some 66) true), (.op .mv [(.tmp 8)] (some 67) true), (.op (.bin .neq) [(.tmp 66), (.tmp 67)] (some 68) true)] false) (.cond (.tmp 68) (.seq (.region [(.op .mv [(.const (.bool false))] (some 2) true)] false) .ret) .skip)) (.seq (.region [(.op .mv [(.const (.bool true))] (some 2) true)] false) .ret))))))))))))))))))))))))), [(.tmp 2)], 69, .one, none⟩
theorem t10 : T 10 = some F10 := tab Try.func10 (by kernel_rfl) rfl
end Go.Proofs.Ytaaajjinpppgeaa
/- The code of some functions, as the evaluator reads it (printed by a program of ours), checked against the program. Own work; no condition. -/
set_option linter.unusedVariables false
set_option linter.unusedSimpArgs false
set_option linter.unusedSectionVars false
namespace Go.Proofs.Ytaaajjinpppgeaa
open Go Go.Abs
set_option maxRecDepth 100000
-- laws.FnExactImageBlock
def F8 : EF := ⟨(.seq (.region [(.op (.box 7) [(.tmp 0)] (some 2) true), (.op .mv [(.const (.bool false))] (some 4) true)] false) (.seq (.region [(.op .mv [(.const (.int .i64 1048576))] (some 5) true)] false) (.seq (.region [(.op (.loadN 7) [(.tmp 2)] (some 13) true), (.op .mv [(.tmp 5)] (some 14) true), (.pc (.const (.fn 43 [])) [(.tmp 13), (.tmp 14)] (some 15) true), (.op .mv [(.tmp 15)] (some 5) true)] false) (.seq (.seq (.region [(.op .mv [(.tmp 5)] (some 16) true), (.op (.bin .lss) [(.tmp 16), (.const (.int .i64 0))] (some 17) true)] false) (.cond (.tmp 17) (.seq (.region [(.op .mv [(.const (.bool true))] (some 4) true)] false) .ret) .skip)) (.seq (.region [(.op (.loadN 7) [(.tmp 2)] (some 18) true), (.pc (.const (.fn 45 [])) [(.tmp 18)] (some 19) true), (.op .mv [(.tmp 1)] (some 20) true), (.pc (.const (.fn 54 [])) [(.tmp 19), (.tmp 20)] (some 21) true), (.op (.alloc (.agg [(.bool false), .nil, (.str ⟨#[]⟩)])) [] (some 6) true), (.op (.storeN 3) [(.tmp 6), (.tmp 21)] none true)] false) (.seq (.view [.opn 6 none none 1 2] (.region [(.op (.loadN 7) [(.tmp 2)] (some 22) true), (.pc (.const (.fn 45 [])) [(.tmp 22)] (some 23) true), (.op (.alloc (.agg [.nil, .nil, .nil, .nil, .nil, .nil, (.int .i64 0)])) [] (some 7) true), (.op (.storeN 7) [(.tmp 7), (.tmp 23)] none true)] false)) (.seq (.region [(.op (.loadN 7) [(.tmp 7)] (some 24) true), (.op .mv [(.tmp 1)] (some 25) true), (.pc (.const (.fn 55 [])) [(.tmp 24), (.tmp 25)] (some 26) true), (.op (.alloc (.agg [(.bool false), .nil, (.str ⟨#[]⟩)])) [] (some 8) true), (.op (.storeN 3) [(.tmp 8), (.tmp 26)] none true)] false) (.seq (.seq (.view [.opn 8 none none 1 2] (.region [(.op (.loadN 3) [(.tmp 8)] (some 27) true), (.op (.loadN 3) [(.tmp 6)] (some 28) true), (.pc (.const (.fn 56 [])) [(.tmp 27), (.tmp 28)] (some 29) true), (.op .not [(.tmp 29)] (some 30) true)] false)) (.cond (.tmp 30) (.seq (.region [(.op .mv [(.const (.bool false))] (some 4) true)] false) .ret) .skip)) (.seq (.seq (.region [(.op (.loadN 7) [(.tmp 7)] (some 31) false), (.op (.loadN 7) [(.tmp 2)] (some 32) false), (.pc (.const (.fn 45 [])) [(.tmp 32)] (some 33) false), (.pc (.const (.fn 47 [])) [(.tmp 31), (.tmp 33)] (some 34) true), (.op .not [(.tmp 34)] (some 35) true)] true) (.cond (.tmp 35) (.seq (.region [(.op .mv [(.const (.bool false))] (some 4) true)] false) .ret) .skip)) (.seq (.region [(.op .mv [(.const (.int .i64 1))] (some 9) true)] false) (.seq (.region [(.op (.loadN 7) [(.tmp 7)] (some 36) true), (.op .mv [(.tmp 9)] (some 37) true), (.sc (.const (.fn 51 [])) [(.tmp 36), (.tmp 37)] (some 38) true), (.op .mv [(.tmp 38)] (some 9) true)] false) (.seq (.seq (.region [(.op .mv [(.tmp 9)] (some 39) true), (.op (.bin .lss) [(.tmp 39), (.const (.int .i64 0))] (some 40) true), (.op .mv [(.tmp 40)] (some 41) true), (.grp 41 false [(.op (.loadN 3) [(.tmp 8)] (some 42) true), (.op (.loadN 3) [(.tmp 6)] (some 43) true), (.pc (.const (.fn 56 [])) [(.tmp 42), (.tmp 43)] (some 44) true), (.op .not [(.tmp 44)] (some 45) true)] 45 46 true)] false) (.cond (.tmp 46) (.seq (.region [(.op .mv [(.const (.bool false))] (some 4) true)] false) .ret) .skip)) (.seq (.region [(.op .mv [(.const (.int .i64 1))] (some 10) true)] false) (.seq (.region [(.op (.loadN 3) [(.tmp 8)] (some 47) true), (.op .mv [(.tmp 10)] (some 48) true), (.sc (.const (.fn 57 [])) [(.tmp 47), (.tmp 48)] (some 49) true), (.op .mv [(.tmp 49)] (some 10) true)] false) (.seq (.region [(.op .mv [(.const (.int .i64 1))] (some 11) true)] false) (.seq (.region [(.op (.loadN 3) [(.tmp 8)] (some 50) true), (.op .mv [(.tmp 11)] (some 51) true), (.pc (.const (.fn 58 [])) [(.tmp 50), (.tmp 51)] (some 52) true), (.op .mv [(.tmp 52)] (some 11) true)] false) (.seq (.seq (.region [(.op .mv [(.tmp 11)] (some 53) true), (.op (.bin .lss) [(.tmp 53), (.const (.int .i64 0))] (some 54) true)] false) (.cond (.tmp 54) (.seq (.region [(.op .mv [(.const (.bool false))] (some 4) true)] false) .ret) .skip)) (.seq (.seq (.region [(.op .mv [(.tmp 11)] (some 55) true), (.op .mv [(.tmp 10)] (some 56) true), (.op (.bin .neq) [(.tmp 55), (.tmp 56)] (some 57) true)] false) (.cond (.tmp 57) (.seq (.region [(.op .mv [(.const (.bool false))] (some 4) true)] false) .ret) .skip)) (.seq (.region [(.op (.loadN 7) [(.tmp 2)] (some 58) true), (.pc (.const (.fn 45 [])) [(.tmp 58)] (some 59) true), (.op .mv [(.tmp 1)] (some 60) true), (.pc (.const (.fn 55 [])) [(.tmp 59), (.tmp 60)] (some 61) true), (.op (.alloc (.agg [(.bool false), .nil, (.str ⟨#[]⟩)])) [] (some 12) true), (.op (.storeN 3) [(.tmp 12), (.tmp 61)] none true)] false) (.seq (.seq (.view [.opn 12 none none 1 2] (.region [(.op (.loadN 3) [(.tmp 12)] (some 62) true), (.op (.loadN 3) [(.tmp 6)] (some 63) true), (.pc (.const (.fn 56 [])) [(.tmp 62), (.tmp 63)] (some 64) true), (.op .not [(.tmp 64)] (some 65) true)] false)) (.cond (.tmp 65) (.seq (.region [(.op .mv [(.const (.bool false))] (some 4) true)] false) .ret) .skip)) (.seq (.region [(.op .mv [(.const (.int .i64 1))] (some 11) true)] false) (.seq (.region [(.op (.loadN 3) [(.tmp 8)] (some 66) true), (.op .mv [(.tmp 11)] (some 67) true), (.pc (.const (.fn 58 [])) [(.tmp 66), (.tmp 67)] (some 68) true), (.op .mv [(.tmp 68)] (some 11) true)] false) (.seq (.seq (.region [(.op .mv [(.tmp 11)] (some 69) true), (.op (.bin .lss) [(.tmp 69), (.const (.int .i64 0))] (some 70) true)] false) (.cond (.tmp 70) (.seq (.region [(.op .mv [(.const (.bool false))] (some 4) true)] false) .ret) .skip)) (.seq (.seq (.region [(.op .mv [(.tmp 11)] (some 71) true), (.op .mv [(.tmp 10)] (some 72) true), (.op (.bin .neq) [(.tmp 71), (.tmp 72)] (some 73) true)] false) (.cond (.tmp 73) (.seq (.region [(.op .mv [(.const (.bool false))] (some 4) true)] false) .ret) .skip)) (.seq (.region [(.op .mv [(.const (.bool true))] (some 4) true)] false) .ret))))))))))))))))))))))))), [(.tmp 4)], 74, .one, none⟩
theorem t8 : T 8 = some F8 := tab Try.func8 (by kernel_rfl) rfl
def H54_5 : List Vw := [.opn 5 none none 1 2, .tidy [1, 2, 4, 5, 6] [(1, none), (2, none), (4, none), (5, none), (6, none), (5, some 1)]]
theorem h54_5 (b : Nat) (s : St) : vwL b H54_5 s = vwL b [.opn 5 none none 1 2, .tidy [1, 2, 4, 5, 6] [(1, none), (2, none), (4, none), (5, none), (6, none), (5, some 1)]] s := rfl
def L54_5 : EC := (.seq (.seq (.region [(.op .mv [(.tmp 6)] (some 24) true), (.op (.faddr 5) [(.tmp 2)] (some 25) true), (.op .load1 [(.tmp 25)] (some 26) true), (.op .len [(.tmp 26)] (some 27) true), (.op (.bin .lss) [(.tmp 24), (.tmp 27)] (some 28) true)] false) (.cond (.tmp 28) .skip (.exit 0))) (.seq (.block 1 (.seq (.region [(.op (.faddr 5) [(.tmp 2)] (some 31) true), (.op .load1 [(.tmp 31)] (some 32) true), (.op .mv [(.tmp 6)] (some 33) true), (.op (.iaddr 11) [(.tmp 32), (.tmp 33)] (some 34) true), (.op (.loadN 11) [(.tmp 34)] (some 35) true), (.op (.alloc (.agg [(.int .i64 0), (.int .i64 0), (.int .i64 0), (.int .i64 0), (.int .i64 0), (.int .i64 0), (.str ⟨#[]⟩), (.bool false), (.bool false), (.int .i64 0), .nil])) [] (some 7) true), (.op (.storeN 11) [(.tmp 7), (.tmp 35)] none true)] false) (.seq (.seq (.region [(.op (.faddr 4) [(.tmp 7)] (some 36) true), (.op .load1 [(.tmp 36)] (some 37) true), (.op .mv [(.tmp 1)] (some 38) true), (.op (.bin .neq) [(.tmp 37), (.tmp 38)] (some 39) true), (.op .mv [(.tmp 39)] (some 40) true), (.grp 40 false [(.op (.faddr 5) [(.tmp 7)] (some 41) true), (.op .load1 [(.tmp 41)] (some 42) true), (.op (.bin .lss) [(.tmp 42), (.const (.int .i64 0))] (some 43) true)] 43 44 true), (.op .mv [(.tmp 44)] (some 45) true), (.grp 45 false [(.op (.faddr 5) [(.tmp 7)] (some 46) true), (.op .load1 [(.tmp 46)] (some 47) true), (.op (.faddr 1) [(.tmp 5)] (some 48) true), (.op .load1 [(.tmp 48)] (some 49) true), (.op .len [(.tmp 49)] (some 50) true), (.op (.bin .geq) [(.tmp 47), (.tmp 50)] (some 51) true)] 51 52 true)] false) (.cond (.tmp 52) (.exit 1) .skip)) (.seq (.seq (.region [(.op (.faddr 1) [(.tmp 7)] (some 53) true), (.op .load1 [(.tmp 53)] (some 54) true), (.op (.bin .eql) [(.tmp 54), (.const (.int .i64 2))] (some 55) true)] false) (.cond (.tmp 55) (.region [(.op (.faddr 1) [(.tmp 5)] (some 56) true), (.op .load1 [(.tmp 56)] (some 57) true), (.op (.faddr 5) [(.tmp 7)] (some 58) true), (.op .load1 [(.tmp 58)] (some 59) true), (.op (.build [(.str ⟨#[]⟩), (.int .i64 0)] []) [] (some 60) true), (.op (.iaddr 2) [(.tmp 57), (.tmp 59)] (some 61) true), (.op (.storeN 2) [(.tmp 61), (.tmp 60)] none true)] false) .skip)) (.seq (.region [(.op (.faddr 1) [(.tmp 7)] (some 62) true), (.op .load1 [(.tmp 62)] (some 63) true), (.op (.bin .eql) [(.tmp 63), (.const (.int .i64 4))] (some 64) true), (.op .mv [(.tmp 64)] (some 65) true), (.grp 65 true [(.op (.faddr 9) [(.tmp 7)] (some 66) true), (.op .load1 [(.tmp 66)] (some 67) true), (.op (.bin .gtr) [(.tmp 67), (.const (.int .i64 0))] (some 68) true)] 68 69 true)] false) (.cond (.tmp 69) (.region [(.op (.faddr 1) [(.tmp 5)] (some 70) true), (.op .load1 [(.tmp 70)] (some 71) true), (.op (.faddr 5) [(.tmp 7)] (some 72) true), (.op .load1 [(.tmp 72)] (some 73) true), (.op (.faddr 6) [(.tmp 7)] (some 74) true), (.op .load1 [(.tmp 74)] (some 75) true), (.op (.faddr 2) [(.tmp 7)] (some 76) true), (.op .load1 [(.tmp 76)] (some 77) true), (.op (.build [(.str ⟨#[]⟩), (.int .i64 0)] [(0, 1), (1, 1)]) [(.tmp 75), (.tmp 77)] (some 78) true), (.op (.iaddr 2) [(.tmp 71), (.tmp 73)] (some 79) true), (.op (.storeN 2) [(.tmp 79), (.tmp 78)] none true)] false) .skip)))))) (.region [(.op .mv [(.tmp 6)] (some 29) true), (.op (.bin .add) [(.tmp 29), (.const (.int .i64 1))] (some 30) true), (.op .mv [(.tmp 30)] (some 6) true)] false)))
-- spec.ImageBlock
def F54 : EF := ⟨(.seq (.region [(.op (.box 7) [(.tmp 0)] (some 2) true), (.op (.alloc (.agg [(.bool false), .nil, (.str ⟨#[]⟩)])) [] (some 4) true)] false) (.seq (.seq (.region [(.op .mv [(.tmp 1)] (some 8) true), (.op (.faddr 0) [(.tmp 2)] (some 9) true), (.op (.faddr 3) [(.tmp 9)] (some 10) true), (.op .load1 [(.tmp 10)] (some 11) true), (.op .len [(.tmp 11)] (some 12) true), (.pc (.const (.fn 116 [])) [(.tmp 8), (.const (.int .i64 1)), (.tmp 12)] (some 13) true), (.op .not [(.tmp 13)] (some 14) true)] false) (.cond (.tmp 14) (.seq (.region [(.op (.build [(.bool false), .nil, (.str ⟨#[]⟩)] []) [] (some 15) true), (.op (.storeN 3) [(.tmp 4), (.tmp 15)] none true)] false) .ret) .skip)) (.seq (.region [(.op (.faddr 0) [(.tmp 2)] (some 16) true), (.op (.faddr 3) [(.tmp 16)] (some 17) true), (.op .load1 [(.tmp 17)] (some 18) true), (.op .mv [(.tmp 1)] (some 19) true), (.op (.bin .sub) [(.tmp 19), (.const (.int .i64 1))] (some 20) true), (.op (.iaddr 3) [(.tmp 18), (.tmp 20)] (some 21) true), (.op (.loadN 3) [(.tmp 21)] (some 22) true), (.pc (.const (.fn 147 [])) [(.tmp 22)] (some 23) true), (.op (.alloc (.agg [(.bool false), .nil, (.str ⟨#[]⟩)])) [] (some 5) true), (.op (.storeN 3) [(.tmp 5), (.tmp 23)] none true)] false) (.seq (.seq (.region [(.op .mv [(.const (.int .i64 0))] (some 6) true)] false) (.block 0 (.loop H54_5 L54_5))) (.seq (.region [(.op (.loadN 3) [(.tmp 5)] (some 80) true), (.op (.storeN 3) [(.tmp 4), (.tmp 80)] none true)] false) .ret))))), [(.cell 4 (.loadN 3))], 81, (.agg [.one, .row 2 .one, .one]), none⟩
theorem t54 : T 54 = some F54 := tab Try.func54 (by kernel_rfl) rfl
def H55_3 : List Vw := [.opn 5 none none 1 2, .tidy [1, 4, 5, 14, 15, 16] [(1, none), (4, none), (5, none), (14, none), (15, none), (16, none), (5, some 1)]]
theorem h55_3 (b : Nat) (s : St) : vwL b H55_3 s = vwL b [.opn 5 none none 1 2, .tidy [1, 4, 5, 14, 15, 16] [(1, none), (4, none), (5, none), (14, none), (15, none), (16, none), (5, some 1)]] s := rfl
def L55_3 : EC := (.seq (.region [(.op (.bin .lss) [(.tmp 16), (.tmp 15)] (some 17) true)] false) (.seq (.cond (.tmp 17) .skip (.exit 0)) (.seq (.block 1 (.seq (.region [(.op (.iaddr 11) [(.tmp 14), (.tmp 16)] (some 18) true), (.op (.loadN 11) [(.tmp 18)] (some 19) true), (.op (.alloc (.agg [(.int .i64 0), (.int .i64 0), (.int .i64 0), (.int .i64 0), (.int .i64 0), (.int .i64 0), (.str ⟨#[]⟩), (.bool false), (.bool false), (.int .i64 0), .nil])) [] (some 7) true), (.op (.storeN 11) [(.tmp 7), (.tmp 19)] none true)] false) (.seq (.seq (.region [(.op (.faddr 4) [(.tmp 7)] (some 20) true), (.op .load1 [(.tmp 20)] (some 21) true), (.op .mv [(.tmp 1)] (some 22) true), (.op (.bin .neq) [(.tmp 21), (.tmp 22)] (some 23) true), (.op .mv [(.tmp 23)] (some 24) true), (.grp 24 false [(.op (.faddr 5) [(.tmp 7)] (some 25) true), (.op .load1 [(.tmp 25)] (some 26) true), (.op (.faddr 1) [(.tmp 5)] (some 27) true), (.op .load1 [(.tmp 27)] (some 28) true), (.op .len [(.tmp 28)] (some 29) true), (.op (.bin .sub) [(.tmp 29), (.const (.int .i64 1))] (some 30) true), (.pc (.const (.fn 117 [])) [(.tmp 26), (.const (.int .i64 0)), (.tmp 30)] (some 31) true), (.op .not [(.tmp 31)] (some 32) true)] 32 33 true)] false) (.cond (.tmp 33) (.exit 1) .skip)) (.seq (.seq (.region [(.op (.faddr 1) [(.tmp 7)] (some 34) true), (.op .load1 [(.tmp 34)] (some 35) true), (.op (.bin .eql) [(.tmp 35), (.const (.int .i64 2))] (some 36) true)] false) (.cond (.tmp 36) (.region [(.op (.faddr 1) [(.tmp 5)] (some 37) true), (.op .load1 [(.tmp 37)] (some 38) true), (.op (.faddr 5) [(.tmp 7)] (some 39) true), (.op .load1 [(.tmp 39)] (some 40) true), (.op (.build [(.str ⟨#[]⟩), (.int .i64 0)] []) [] (some 41) true), (.op (.iaddr 2) [(.tmp 38), (.tmp 40)] (some 42) true), (.op (.storeN 2) [(.tmp 42), (.tmp 41)] none true)] false) .skip)) (.seq (.region [(.op (.faddr 1) [(.tmp 7)] (some 43) true), (.op .load1 [(.tmp 43)] (some 44) true), (.op (.bin .eql) [(.tmp 44), (.const (.int .i64 4))] (some 45) true), (.op .mv [(.tmp 45)] (some 46) true), (.grp 46 true [(.op (.faddr 9) [(.tmp 7)] (some 47) true), (.op .load1 [(.tmp 47)] (some 48) true), (.op (.bin .gtr) [(.tmp 48), (.const (.int .i64 0))] (some 49) true)] 49 50 true)] false) (.cond (.tmp 50) (.region [(.op (.faddr 1) [(.tmp 5)] (some 51) true), (.op .load1 [(.tmp 51)] (some 52) true), (.op (.faddr 5) [(.tmp 7)] (some 53) true), (.op .load1 [(.tmp 53)] (some 54) true), (.op (.faddr 6) [(.tmp 7)] (some 55) true), (.op .load1 [(.tmp 55)] (some 56) true), (.op (.faddr 2) [(.tmp 7)] (some 57) true), (.op .load1 [(.tmp 57)] (some 58) true), (.op (.build [(.str ⟨#[]⟩), (.int .i64 0)] [(0, 1), (1, 1)]) [(.tmp 56), (.tmp 58)] (some 59) true), (.op (.iaddr 2) [(.tmp 52), (.tmp 54)] (some 60) true), (.op (.storeN 2) [(.tmp 60), (.tmp 59)] none true)] false) .skip)))))) (.region [(.op (.bin .add) [(.tmp 16), (.const (.int .i64 1))] (some 61) true), (.op .mv [(.tmp 61)] (some 16) true)] false))))
-- impl.ImageBlock
def F55 : EF := ⟨(.seq (.region [(.op (.box 7) [(.tmp 0)] (some 2) true), (.op (.alloc (.agg [(.bool false), .nil, (.str ⟨#[]⟩)])) [] (some 4) true)] false) (.seq (.region [(.op (.faddr 0) [(.tmp 2)] (some 8) true), (.op (.loadN 4) [(.tmp 8)] (some 9) true), (.op .mv [(.tmp 1)] (some 10) true), (.pc (.const (.fn 149 [])) [(.tmp 9), (.tmp 10)] (some 11) true), (.pc (.const (.fn 148 [])) [(.tmp 11)] (some 12) true), (.op (.alloc (.agg [(.bool false), .nil, (.str ⟨#[]⟩)])) [] (some 5) true), (.op (.storeN 3) [(.tmp 5), (.tmp 12)] none true)] false) (.seq (.seq (.region [(.op (.faddr 5) [(.tmp 2)] (some 13) true), (.op .load1 [(.tmp 13)] (some 14) true), (.op .len [(.tmp 14)] (some 15) true), (.op .mv [(.const (.int .i64 0))] (some 16) true)] false) (.block 0 (.loop H55_3 L55_3))) (.seq (.region [(.op (.loadN 3) [(.tmp 5)] (some 62) true), (.op (.storeN 3) [(.tmp 4), (.tmp 62)] none true)] false) .ret)))), [(.cell 4 (.loadN 3))], 63, .one, none⟩
theorem t55 : T 55 = some F55 := tab Try.func55 (by kernel_rfl) rfl
-- spec.l04Copy
def F147 : EF := ⟨(.seq (.region [(.op (.box 3) [(.tmp 0)] (some 1) true), (.op (.alloc (.agg [(.bool false), .nil, (.str ⟨#[]⟩)])) [] (some 2) true)] false) (.seq (.region [(.op (.bslice 2 0 (.agg [(.str ⟨#[]⟩), (.int .i64 0)]) []) [] (some 3) true), (.op (.faddr 1) [(.tmp 1)] (some 4) true), (.op .load1 [(.tmp 4)] (some 5) true), (.op (.append 2 24) [(.tmp 3), (.tmp 5)] (some 6) true), (.op (.faddr 1) [(.tmp 1)] (some 7) true), (.op .store1 [(.tmp 7), (.tmp 6)] none true)] false) (.seq (.region [(.op (.loadN 3) [(.tmp 1)] (some 8) true), (.op (.storeN 3) [(.tmp 2), (.tmp 8)] none true)] false) .ret))), [(.cell 2 (.loadN 3))], 9, (.agg [.one, .row 2 .one, .one]), none⟩
theorem t147 : T 147 = some F147 := tab Try.func147 (by kernel_rfl) rfl
-- impl.copyBlock
def F148 : EF := ⟨(.seq (.region [(.op (.box 3) [(.tmp 0)] (some 1) true), (.op (.alloc (.agg [(.bool false), .nil, (.str ⟨#[]⟩)])) [] (some 2) true)] false) (.seq (.region [(.op (.bslice 2 0 (.agg [(.str ⟨#[]⟩), (.int .i64 0)]) []) [] (some 3) true), (.op (.faddr 1) [(.tmp 1)] (some 4) true), (.op .load1 [(.tmp 4)] (some 5) true), (.op (.append 2 24) [(.tmp 3), (.tmp 5)] (some 6) true), (.op (.faddr 1) [(.tmp 1)] (some 7) true), (.op .store1 [(.tmp 7), (.tmp 6)] none true)] false) (.seq (.region [(.op (.loadN 3) [(.tmp 1)] (some 8) true), (.op (.storeN 3) [(.tmp 2), (.tmp 8)] none true)] false) .ret))), [(.cell 2 (.loadN 3))], 9, (.agg [.one, .row 2 .one, .one]), none⟩
theorem t148 : T 148 = some F148 := tab Try.func148 (by kernel_rfl) rfl
-- impl.blockAt
def F149 : EF := ⟨(.seq (.region [(.op (.box 4) [(.tmp 0)] (some 2) true), (.op (.alloc (.agg [(.bool false), .nil, (.str ⟨#[]⟩)])) [] (some 4) true)] false) (.seq (.seq (.region [(.op .mv [(.tmp 1)] (some 5) true), (.op (.faddr 3) [(.tmp 2)] (some 6) true), (.op .load1 [(.tmp 6)] (some 7) true), (.op .len [(.tmp 7)] (some 8) true), (.pc (.const (.fn 117 [])) [(.tmp 5), (.const (.int .i64 1)), (.tmp 8)] (some 9) true), (.op .not [(.tmp 9)] (some 10) true)] false) (.cond (.tmp 10) (.seq (.region [(.op (.build [(.bool false), .nil, (.str ⟨#[]⟩)] []) [] (some 11) true), (.op (.storeN 3) [(.tmp 4), (.tmp 11)] none true)] false) .ret) .skip)) (.seq (.region [(.op (.faddr 3) [(.tmp 2)] (some 12) true), (.op .load1 [(.tmp 12)] (some 13) true), (.op .mv [(.tmp 1)] (some 14) true), (.op (.bin .sub) [(.tmp 14), (.const (.int .i64 1))] (some 15) true), (.op (.iaddr 3) [(.tmp 13), (.tmp 15)] (some 16) true), (.op (.loadN 3) [(.tmp 16)] (some 17) true), (.op (.storeN 3) [(.tmp 4), (.tmp 17)] none true)] false) .ret))), [(.cell 4 (.loadN 3))], 18, (.agg [.one, .rrow 2, .one]), none⟩
theorem t149 : T 149 = some F149 := tab Try.func149 (by kernel_rfl) rfl
end Go.Proofs.Ytaaajjinpppgeaa
/- The code of some functions, as the evaluator reads it (printed by a program of ours), checked against the program. Own work; no condition. -/
set_option linter.unusedVariables false
set_option linter.unusedSimpArgs false
set_option linter.unusedSectionVars false
namespace Go.Proofs.Ytaaajjinpppgeaa
open Go Go.Abs
set_option maxRecDepth 100000
-- laws.FnExactImageInode
def F7 : EF := ⟨(.seq (.region [(.op (.box 7) [(.tmp 0)] (some 2) true), (.op .mv [(.const (.bool false))] (some 4) true)] false) (.seq (.region [(.op .mv [(.const (.int .i64 1048576))] (some 5) true)] false) (.seq (.region [(.op (.loadN 7) [(.tmp 2)] (some 13) true), (.op .mv [(.tmp 5)] (some 14) true), (.pc (.const (.fn 43 [])) [(.tmp 13), (.tmp 14)] (some 15) true), (.op .mv [(.tmp 15)] (some 5) true)] false) (.seq (.seq (.region [(.op .mv [(.tmp 5)] (some 16) true), (.op (.bin .lss) [(.tmp 16), (.const (.int .i64 0))] (some 17) true)] false) (.cond (.tmp 17) (.seq (.region [(.op .mv [(.const (.bool true))] (some 4) true)] false) .ret) .skip)) (.seq (.region [(.op (.loadN 7) [(.tmp 2)] (some 18) true), (.pc (.const (.fn 45 [])) [(.tmp 18)] (some 19) true), (.op .mv [(.tmp 1)] (some 20) true), (.pc (.const (.fn 48 [])) [(.tmp 19), (.tmp 20)] (some 21) true), (.op (.alloc (.agg [(.int .i64 0), (.int .i64 0), .nil])) [] (some 6) true), (.op (.storeN 3) [(.tmp 6), (.tmp 21)] none true)] false) (.seq (.region [(.op (.loadN 7) [(.tmp 2)] (some 22) true), (.pc (.const (.fn 45 [])) [(.tmp 22)] (some 23) true), (.op (.alloc (.agg [.nil, .nil, .nil, .nil, .nil, .nil, (.int .i64 0)])) [] (some 7) true), (.op (.storeN 7) [(.tmp 7), (.tmp 23)] none true)] false) (.seq (.region [(.op (.loadN 7) [(.tmp 7)] (some 24) true), (.op .mv [(.tmp 1)] (some 25) true), (.pc (.const (.fn 49 [])) [(.tmp 24), (.tmp 25)] (some 26) true), (.op (.alloc (.agg [(.int .i64 0), (.int .i64 0), .nil])) [] (some 8) true), (.op (.storeN 3) [(.tmp 8), (.tmp 26)] none true)] false) (.seq (.seq (.region [(.op (.loadN 3) [(.tmp 8)] (some 27) true), (.op (.loadN 3) [(.tmp 6)] (some 28) true), (.pc (.const (.fn 50 [])) [(.tmp 27), (.tmp 28)] (some 29) true), (.op .not [(.tmp 29)] (some 30) true)] false) (.cond (.tmp 30) (.seq (.region [(.op .mv [(.const (.bool false))] (some 4) true)] false) .ret) .skip)) (.seq (.seq (.region [(.op (.loadN 7) [(.tmp 7)] (some 31) false), (.op (.loadN 7) [(.tmp 2)] (some 32) false), (.pc (.const (.fn 45 [])) [(.tmp 32)] (some 33) false), (.pc (.const (.fn 47 [])) [(.tmp 31), (.tmp 33)] (some 34) true), (.op .not [(.tmp 34)] (some 35) true)] true) (.cond (.tmp 35) (.seq (.region [(.op .mv [(.const (.bool false))] (some 4) true)] false) .ret) .skip)) (.seq (.region [(.op .mv [(.const (.int .i64 1))] (some 9) true)] false) (.seq (.region [(.op (.loadN 7) [(.tmp 7)] (some 36) true), (.op .mv [(.tmp 9)] (some 37) true), (.sc (.const (.fn 51 [])) [(.tmp 36), (.tmp 37)] (some 38) true), (.op .mv [(.tmp 38)] (some 9) true)] false) (.seq (.seq (.region [(.op .mv [(.tmp 9)] (some 39) true), (.op (.bin .lss) [(.tmp 39), (.const (.int .i64 0))] (some 40) true), (.op .mv [(.tmp 40)] (some 41) true), (.grp 41 false [(.op (.loadN 3) [(.tmp 8)] (some 42) true), (.op (.loadN 3) [(.tmp 6)] (some 43) true), (.pc (.const (.fn 50 [])) [(.tmp 42), (.tmp 43)] (some 44) true), (.op .not [(.tmp 44)] (some 45) true)] 45 46 true)] false) (.cond (.tmp 46) (.seq (.region [(.op .mv [(.const (.bool false))] (some 4) true)] false) .ret) .skip)) (.seq (.region [(.op .mv [(.const (.int .i64 1))] (some 10) true)] false) (.seq (.region [(.op (.loadN 3) [(.tmp 8)] (some 47) true), (.op .mv [(.tmp 10)] (some 48) true), (.sc (.const (.fn 52 [])) [(.tmp 47), (.tmp 48)] (some 49) true), (.op .mv [(.tmp 49)] (some 10) true)] false) (.seq (.region [(.op .mv [(.const (.int .i64 1))] (some 11) true)] false) (.seq (.region [(.op (.loadN 3) [(.tmp 8)] (some 50) true), (.op .mv [(.tmp 11)] (some 51) true), (.pc (.const (.fn 53 [])) [(.tmp 50), (.tmp 51)] (some 52) true), (.op .mv [(.tmp 52)] (some 11) true)] false) (.seq (.seq (.region [(.op .mv [(.tmp 11)] (some 53) true), (.op (.bin .lss) [(.tmp 53), (.const (.int .i64 0))] (some 54) true)] false) (.cond (.tmp 54) (.seq (.region [(.op .mv [(.const (.bool false))] (some 4) true)] false) .ret) .skip)) (.seq (.seq (.region [(.op .mv [(.tmp 11)] (some 55) true), (.op .mv [(.tmp 10)] (some 56) true), (.op (.bin .neq) [(.tmp 55), (.tmp 56)] (some 57) true)] false) (.cond (.tmp 57) (.seq (.region [(.op .mv [(.const (.bool false))] (some 4) true)] false) .ret) .skip)) (.seq (.region [(.op (.loadN 7) [(.tmp 2)] (some 58) true), (.pc (.const (.fn 45 [])) [(.tmp 58)] (some 59) true), (.op .mv [(.tmp 1)] (some 60) true), (.pc (.const (.fn 49 [])) [(.tmp 59), (.tmp 60)] (some 61) true), (.op (.alloc (.agg [(.int .i64 0), (.int .i64 0), .nil])) [] (some 12) true), (.op (.storeN 3) [(.tmp 12), (.tmp 61)] none true)] false) (.seq (.seq (.region [(.op (.loadN 3) [(.tmp 12)] (some 62) true), (.op (.loadN 3) [(.tmp 6)] (some 63) true), (.pc (.const (.fn 50 [])) [(.tmp 62), (.tmp 63)] (some 64) true), (.op .not [(.tmp 64)] (some 65) true)] false) (.cond (.tmp 65) (.seq (.region [(.op .mv [(.const (.bool false))] (some 4) true)] false) .ret) .skip)) (.seq (.region [(.op .mv [(.const (.int .i64 1))] (some 11) true)] false) (.seq (.region [(.op (.loadN 3) [(.tmp 8)] (some 66) true), (.op .mv [(.tmp 11)] (some 67) true), (.pc (.const (.fn 53 [])) [(.tmp 66), (.tmp 67)] (some 68) true), (.op .mv [(.tmp 68)] (some 11) true)] false) (.seq (.seq (.region [(.op .mv [(.tmp 11)] (some 69) true), (.op (.bin .lss) [(.tmp 69), (.const (.int .i64 0))] (some 70) true)] false) (.cond (.tmp 70) (.seq (.region [(.op .mv [(.const (.bool false))] (some 4) true)] false) .ret) .skip)) (.seq (.seq (.region [(.op .mv [(.tmp 11)] (some 71) true), (.op .mv [(.tmp 10)] (some 72) true), (.op (.bin .neq) [(.tmp 71), (.tmp 72)] (some 73) true)] false) (.cond (.tmp 73) (.seq (.region [(.op .mv [(.const (.bool false))] (some 4) true)] false) .ret) .skip)) (.seq (.region [(.op .mv [(.const (.bool true))] (some 4) true)] false) .ret))))))))))))))))))))))))), [(.tmp 4)], 74, .one, none⟩
theorem t7 : T 7 = some F7 := tab Try.func7 (by kernel_rfl) rfl
def H48_5 : List Vw := [.opn 5 none none 2 1, .tidy [1, 2, 4, 5, 6] [(1, none), (2, none), (4, none), (5, none), (6, none), (5, some 2)]]
theorem h48_5 (b : Nat) (s : St) : vwL b H48_5 s = vwL b [.opn 5 none none 2 1, .tidy [1, 2, 4, 5, 6] [(1, none), (2, none), (4, none), (5, none), (6, none), (5, some 2)]] s := rfl
def L48_5 : EC := (.seq (.seq (.region [(.op .mv [(.tmp 6)] (some 24) true), (.op (.faddr 5) [(.tmp 2)] (some 25) true), (.op .load1 [(.tmp 25)] (some 26) true), (.op .len [(.tmp 26)] (some 27) true), (.op (.bin .lss) [(.tmp 24), (.tmp 27)] (some 28) true)] false) (.cond (.tmp 28) .skip (.exit 0))) (.seq (.block 1 (.seq (.region [(.op (.faddr 5) [(.tmp 2)] (some 31) true), (.op .load1 [(.tmp 31)] (some 32) true), (.op .mv [(.tmp 6)] (some 33) true), (.op (.iaddr 11) [(.tmp 32), (.tmp 33)] (some 34) true), (.op (.loadN 11) [(.tmp 34)] (some 35) true), (.op (.alloc (.agg [(.int .i64 0), (.int .i64 0), (.int .i64 0), (.int .i64 0), (.int .i64 0), (.int .i64 0), (.str ⟨#[]⟩), (.bool false), (.bool false), (.int .i64 0), .nil])) [] (some 7) true), (.op (.storeN 11) [(.tmp 7), (.tmp 35)] none true)] false) (.seq (.region [(.op (.faddr 1) [(.tmp 7)] (some 36) true), (.op .load1 [(.tmp 36)] (some 37) true), (.op (.bin .eql) [(.tmp 37), (.const (.int .i64 1))] (some 38) true), (.op .mv [(.tmp 38)] (some 39) true), (.grp 39 true [(.op (.faddr 2) [(.tmp 7)] (some 40) true), (.op .load1 [(.tmp 40)] (some 41) true), (.op .mv [(.tmp 1)] (some 42) true), (.op (.bin .eql) [(.tmp 41), (.tmp 42)] (some 43) true)] 43 44 true), (.op .mv [(.tmp 44)] (some 45) true), (.grp 45 true [(.op (.faddr 3) [(.tmp 7)] (some 46) true), (.op .load1 [(.tmp 46)] (some 47) true), (.op (.bin .geq) [(.tmp 47), (.const (.int .i64 0))] (some 48) true)] 48 49 true), (.op .mv [(.tmp 49)] (some 50) true), (.grp 50 true [(.op (.faddr 3) [(.tmp 7)] (some 51) true), (.op .load1 [(.tmp 51)] (some 52) true), (.op (.faddr 2) [(.tmp 5)] (some 53) true), (.op .load1 [(.tmp 53)] (some 54) true), (.op .len [(.tmp 54)] (some 55) true), (.op (.bin .lss) [(.tmp 52), (.tmp 55)] (some 56) true)] 56 57 true)] false) (.cond (.tmp 57) (.region [(.op (.faddr 2) [(.tmp 5)] (some 58) true), (.op .load1 [(.tmp 58)] (some 59) true), (.op (.faddr 3) [(.tmp 7)] (some 60) true), (.op .load1 [(.tmp 60)] (some 61) true), (.op (.iaddr 1) [(.tmp 59), (.tmp 61)] (some 62) true), (.op .store1 [(.tmp 62), (.const (.int .i64 0))] none true)] false) .skip)))) (.region [(.op .mv [(.tmp 6)] (some 29) true), (.op (.bin .add) [(.tmp 29), (.const (.int .i64 1))] (some 30) true), (.op .mv [(.tmp 30)] (some 6) true)] false)))
-- spec.ImageInode
def F48 : EF := ⟨(.seq (.region [(.op (.box 7) [(.tmp 0)] (some 2) true), (.op (.alloc (.agg [(.int .i64 0), (.int .i64 0), .nil])) [] (some 4) true)] false) (.seq (.seq (.region [(.op .mv [(.tmp 1)] (some 8) true), (.op (.faddr 0) [(.tmp 2)] (some 9) true), (.op (.faddr 2) [(.tmp 9)] (some 10) true), (.op .load1 [(.tmp 10)] (some 11) true), (.op .len [(.tmp 11)] (some 12) true), (.pc (.const (.fn 116 [])) [(.tmp 8), (.const (.int .i64 1)), (.tmp 12)] (some 13) true), (.op .not [(.tmp 13)] (some 14) true)] false) (.cond (.tmp 14) (.seq (.region [(.pc (.const (.fn 141 [])) [(.const (.int .i64 0))] (some 15) true), (.op (.storeN 3) [(.tmp 4), (.tmp 15)] none true)] false) .ret) .skip)) (.seq (.region [(.op (.faddr 0) [(.tmp 2)] (some 16) true), (.op (.faddr 2) [(.tmp 16)] (some 17) true), (.op .load1 [(.tmp 17)] (some 18) true), (.op .mv [(.tmp 1)] (some 19) true), (.op (.bin .sub) [(.tmp 19), (.const (.int .i64 1))] (some 20) true), (.op (.iaddr 3) [(.tmp 18), (.tmp 20)] (some 21) true), (.op (.loadN 3) [(.tmp 21)] (some 22) true), (.pc (.const (.fn 142 [])) [(.tmp 22)] (some 23) true), (.op (.alloc (.agg [(.int .i64 0), (.int .i64 0), .nil])) [] (some 5) true), (.op (.storeN 3) [(.tmp 5), (.tmp 23)] none true)] false) (.seq (.seq (.region [(.op .mv [(.const (.int .i64 0))] (some 6) true)] false) (.block 0 (.loop H48_5 L48_5))) (.seq (.region [(.op (.loadN 3) [(.tmp 5)] (some 63) true), (.op (.storeN 3) [(.tmp 4), (.tmp 63)] none true)] false) .ret))))), [(.cell 4 (.loadN 3))], 64, .one, none⟩
theorem t48 : T 48 = some F48 := tab Try.func48 (by kernel_rfl) rfl
def H49_5 : List Vw := [.opn 5 none none 2 1, .tidy [1, 4, 5, 25, 26, 27] [(1, none), (4, none), (5, none), (25, none), (26, none), (27, none), (5, some 2)]]
theorem h49_5 (b : Nat) (s : St) : vwL b H49_5 s = vwL b [.opn 5 none none 2 1, .tidy [1, 4, 5, 25, 26, 27] [(1, none), (4, none), (5, none), (25, none), (26, none), (27, none), (5, some 2)]] s := rfl
def L49_5 : EC := (.seq (.region [(.op (.bin .lss) [(.tmp 27), (.tmp 26)] (some 28) true)] false) (.seq (.cond (.tmp 28) .skip (.exit 0)) (.seq (.block 1 (.seq (.region [(.op (.iaddr 11) [(.tmp 25), (.tmp 27)] (some 29) true), (.op (.loadN 11) [(.tmp 29)] (some 30) true), (.op (.alloc (.agg [(.int .i64 0), (.int .i64 0), (.int .i64 0), (.int .i64 0), (.int .i64 0), (.int .i64 0), (.str ⟨#[]⟩), (.bool false), (.bool false), (.int .i64 0), .nil])) [] (some 7) true), (.op (.storeN 11) [(.tmp 7), (.tmp 30)] none true)] false) (.seq (.region [(.op (.faddr 1) [(.tmp 7)] (some 31) true), (.op .load1 [(.tmp 31)] (some 32) true), (.op (.bin .eql) [(.tmp 32), (.const (.int .i64 1))] (some 33) true), (.op .mv [(.tmp 33)] (some 34) true), (.grp 34 true [(.op (.faddr 2) [(.tmp 7)] (some 35) true), (.op .load1 [(.tmp 35)] (some 36) true), (.op .mv [(.tmp 1)] (some 37) true), (.op (.bin .eql) [(.tmp 36), (.tmp 37)] (some 38) true)] 38 39 true), (.op .mv [(.tmp 39)] (some 40) true), (.grp 40 true [(.op (.faddr 3) [(.tmp 7)] (some 41) true), (.op .load1 [(.tmp 41)] (some 42) true), (.op (.faddr 2) [(.tmp 5)] (some 43) true), (.op .load1 [(.tmp 43)] (some 44) true), (.op .len [(.tmp 44)] (some 45) true), (.op (.bin .sub) [(.tmp 45), (.const (.int .i64 1))] (some 46) true), (.pc (.const (.fn 117 [])) [(.tmp 42), (.const (.int .i64 0)), (.tmp 46)] (some 47) true)] 47 48 true)] false) (.cond (.tmp 48) (.region [(.op (.faddr 2) [(.tmp 5)] (some 49) true), (.op .load1 [(.tmp 49)] (some 50) true), (.op (.faddr 3) [(.tmp 7)] (some 51) true), (.op .load1 [(.tmp 51)] (some 52) true), (.op (.iaddr 1) [(.tmp 50), (.tmp 52)] (some 53) true), (.op .store1 [(.tmp 53), (.const (.int .i64 0))] none true)] false) .skip)))) (.region [(.op (.bin .add) [(.tmp 27), (.const (.int .i64 1))] (some 54) true), (.op .mv [(.tmp 54)] (some 27) true)] false))))
-- impl.ImageInode
def F49 : EF := ⟨(.seq (.region [(.op (.box 7) [(.tmp 0)] (some 2) true), (.op (.alloc (.agg [(.int .i64 0), (.int .i64 0), .nil])) [] (some 4) true)] false) (.seq (.seq (.region [(.op .mv [(.tmp 1)] (some 8) true), (.op (.faddr 0) [(.tmp 2)] (some 9) true), (.op (.faddr 2) [(.tmp 9)] (some 10) true), (.op .load1 [(.tmp 10)] (some 11) true), (.op .len [(.tmp 11)] (some 12) true), (.pc (.const (.fn 117 [])) [(.tmp 8), (.const (.int .i64 1)), (.tmp 12)] (some 13) true), (.op .not [(.tmp 13)] (some 14) true)] false) (.cond (.tmp 14) (.seq (.region [(.pc (.const (.fn 143 [])) [(.const (.int .i64 0))] (some 15) true), (.op (.storeN 3) [(.tmp 4), (.tmp 15)] none true)] false) .ret) .skip)) (.seq (.region [(.op (.faddr 0) [(.tmp 2)] (some 16) true), (.op (.faddr 2) [(.tmp 16)] (some 17) true), (.op .load1 [(.tmp 17)] (some 18) true), (.op .mv [(.tmp 1)] (some 19) true), (.op (.bin .sub) [(.tmp 19), (.const (.int .i64 1))] (some 20) true), (.op (.iaddr 3) [(.tmp 18), (.tmp 20)] (some 21) true), (.op (.loadN 3) [(.tmp 21)] (some 22) true), (.pc (.const (.fn 144 [])) [(.tmp 22)] (some 23) true), (.op (.alloc (.agg [(.int .i64 0), (.int .i64 0), .nil])) [] (some 5) true), (.op (.storeN 3) [(.tmp 5), (.tmp 23)] none true)] false) (.seq (.seq (.region [(.op (.faddr 5) [(.tmp 2)] (some 24) true), (.op .load1 [(.tmp 24)] (some 25) true), (.op .len [(.tmp 25)] (some 26) true), (.op .mv [(.const (.int .i64 0))] (some 27) true)] false) (.block 0 (.loop H49_5 L49_5))) (.seq (.region [(.op (.loadN 3) [(.tmp 5)] (some 55) true), (.op (.storeN 3) [(.tmp 4), (.tmp 55)] none true)] false) .ret))))), [(.cell 4 (.loadN 3))], 56, .one, none⟩
theorem t49 : T 49 = some F49 := tab Try.func49 (by kernel_rfl) rfl
-- spec.l01In
def F116 : EF := ⟨(.seq (.region [(.op .mv [(.const (.bool false))] (some 6) true)] false) (.seq (.region [(.op .mv [(.tmp 0)] (some 7) true), (.op .mv [(.tmp 1)] (some 8) true), (.op (.bin .geq) [(.tmp 7), (.tmp 8)] (some 9) true), (.op .mv [(.tmp 9)] (some 10) true), (.grp 10 true [(.op .mv [(.tmp 0)] (some 11) true), (.op .mv [(.tmp 2)] (some 12) true), (.op (.bin .leq) [(.tmp 11), (.tmp 12)] (some 13) true)] 13 14 true), (.op .mv [(.tmp 14)] (some 6) true)] false) .ret)), [(.tmp 6)], 15, .one, none⟩
theorem t116 : T 116 = some F116 := tab Try.func116 (by kernel_rfl) rfl
-- impl.within
def F117 : EF := ⟨(.seq (.region [(.op .mv [(.const (.bool false))] (some 6) true)] false) (.seq (.region [(.op .mv [(.tmp 0)] (some 7) true), (.op .mv [(.tmp 1)] (some 8) true), (.op (.bin .geq) [(.tmp 7), (.tmp 8)] (some 9) true), (.op .mv [(.tmp 9)] (some 10) true), (.grp 10 true [(.op .mv [(.tmp 0)] (some 11) true), (.op .mv [(.tmp 2)] (some 12) true), (.op (.bin .leq) [(.tmp 11), (.tmp 12)] (some 13) true)] 13 14 true), (.op .mv [(.tmp 14)] (some 6) true)] false) .ret)), [(.tmp 6)], 15, .one, none⟩
theorem t117 : T 117 = some F117 := tab Try.func117 (by kernel_rfl) rfl
-- spec.InodeNew
def F141 : EF := ⟨(.seq (.region [(.op (.alloc (.agg [(.int .i64 0), (.int .i64 0), .nil])) [] (some 2) true)] false) (.seq (.region [(.op .mv [(.tmp 0)] (some 4) true), (.op (.mkslice 1 8 (.int .i64 0)) [(.const (.int .i64 2)), (.const (.int .i64 2))] (some 5) true), (.op (.build [(.int .i64 0), (.int .i64 0), .nil] [(0, 1), (1, 1), (2, 1)]) [(.tmp 4), (.const (.int .i64 1)), (.tmp 5)] (some 6) true), (.op (.alloc (.agg [(.int .i64 0), (.int .i64 0), .nil])) [] (some 3) true), (.op (.storeN 3) [(.tmp 3), (.tmp 6)] none true)] false) (.seq (.seq (.region [(.op .mv [(.tmp 0)] (some 7) true), (.op (.bin .eql) [(.tmp 7), (.const (.int .i64 0))] (some 8) true)] false) (.cond (.tmp 8) (.region [(.op (.faddr 1) [(.tmp 3)] (some 9) true), (.op .store1 [(.tmp 9), (.const (.int .i64 0))] none true)] false) .skip)) (.seq (.region [(.op (.loadN 3) [(.tmp 3)] (some 10) true), (.op (.storeN 3) [(.tmp 2), (.tmp 10)] none true)] false) .ret)))), [(.cell 2 (.loadN 3))], 11, .one, none⟩
theorem t141 : T 141 = some F141 := tab Try.func141 (by kernel_rfl) rfl
-- spec.l03Copy
def F142 : EF := ⟨(.seq (.region [(.op (.box 3) [(.tmp 0)] (some 1) true), (.op (.alloc (.agg [(.int .i64 0), (.int .i64 0), .nil])) [] (some 2) true)] false) (.seq (.region [(.op (.bslice 1 0 (.int .i64 0) []) [] (some 3) true), (.op (.faddr 2) [(.tmp 1)] (some 4) true), (.op .load1 [(.tmp 4)] (some 5) true), (.op (.append 1 8) [(.tmp 3), (.tmp 5)] (some 6) true), (.op (.faddr 2) [(.tmp 1)] (some 7) true), (.op .store1 [(.tmp 7), (.tmp 6)] none true)] false) (.seq (.region [(.op (.loadN 3) [(.tmp 1)] (some 8) true), (.op (.storeN 3) [(.tmp 2), (.tmp 8)] none true)] false) .ret))), [(.cell 2 (.loadN 3))], 9, (.agg [.one, .one, .row 1 .one]), none⟩
theorem t142 : T 142 = some F142 := tab Try.func142 (by kernel_rfl) rfl
-- impl.InodeNew
def F143 : EF := ⟨(.seq (.region [(.op (.alloc (.agg [(.int .i64 0), (.int .i64 0), .nil])) [] (some 2) true)] false) (.seq (.region [(.op .mv [(.tmp 0)] (some 4) true), (.op (.mkslice 1 8 (.int .i64 0)) [(.const (.int .i64 2)), (.const (.int .i64 2))] (some 5) true), (.op (.build [(.int .i64 0), (.int .i64 0), .nil] [(0, 1), (1, 1), (2, 1)]) [(.tmp 4), (.const (.int .i64 1)), (.tmp 5)] (some 6) true), (.op (.alloc (.agg [(.int .i64 0), (.int .i64 0), .nil])) [] (some 3) true), (.op (.storeN 3) [(.tmp 3), (.tmp 6)] none true)] false) (.seq (.seq (.region [(.op .mv [(.tmp 0)] (some 7) true), (.op (.bin .eql) [(.tmp 7), (.const (.int .i64 0))] (some 8) true)] false) (.cond (.tmp 8) (.region [(.op (.faddr 1) [(.tmp 3)] (some 9) true), (.op .store1 [(.tmp 9), (.const (.int .i64 0))] none true)] false) .skip)) (.seq (.region [(.op (.loadN 3) [(.tmp 3)] (some 10) true), (.op (.storeN 3) [(.tmp 2), (.tmp 10)] none true)] false) .ret)))), [(.cell 2 (.loadN 3))], 11, .one, none⟩
theorem t143 : T 143 = some F143 := tab Try.func143 (by kernel_rfl) rfl
-- impl.copyInode
def F144 : EF := ⟨(.seq (.region [(.op (.box 3) [(.tmp 0)] (some 1) true), (.op (.alloc (.agg [(.int .i64 0), (.int .i64 0), .nil])) [] (some 2) true)] false) (.seq (.region [(.op (.faddr 2) [(.tmp 1)] (some 3) true), (.op .load1 [(.tmp 3)] (some 4) true), (.pc (.const (.fn 217 [])) [(.tmp 4)] (some 5) true), (.op (.faddr 2) [(.tmp 1)] (some 6) true), (.op .store1 [(.tmp 6), (.tmp 5)] none true)] false) (.seq (.region [(.op (.loadN 3) [(.tmp 1)] (some 7) true), (.op (.storeN 3) [(.tmp 2), (.tmp 7)] none true)] false) .ret))), [(.cell 2 (.loadN 3))], 8, (.agg [.one, .one, .row 1 .one]), none⟩
theorem t144 : T 144 = some F144 := tab Try.func144 (by kernel_rfl) rfl
-- impl.copyInts
def F217 : EF := ⟨(.seq (.region [(.op .mv [(.const .nil)] (some 2) true)] false) (.seq (.region [(.op (.bslice 1 0 (.int .i64 0) []) [] (some 3) true), (.op .mv [(.tmp 0)] (some 4) true), (.op (.append 1 8) [(.tmp 3), (.tmp 4)] (some 5) true), (.op .mv [(.tmp 5)] (some 2) true)] false) .ret)), [(.tmp 2)], 6, (.row 1 .one), none⟩
theorem t217 : T 217 = some F217 := tab Try.func217 (by kernel_rfl) rfl
end Go.Proofs.Ytaaajjinpppgeaa
/- ImageInode: what is written of an inode. Own work; no condition. -/
set_option linter.unusedVariables false
set_option linter.unusedSimpArgs false
set_option linter.unusedSectionVars false
namespace Go.Proofs.Ytaaajjinpppgeaa
open Go Go.Abs
set_option maxRecDepth 100000
def inside (x a b : Int) : Bool := decide (a ≤ x) && decide (x ≤ b)
theorem e116i (x a b : Int) : E T 116 [.int .i64 x, .int .i64 a, .int .i64 b] [] = some (.bool (inside x a b), []) := by
  rw [E_eq t116 (Nat.le_of_ble_eq_true rfl)]; simp only [F116, go_sem, seval]; rfl
theorem e117i (x a b : Int) : E T 117 [.int .i64 x, .int .i64 a, .int .i64 b] [] = some (.bool (inside x a b), []) := by
  rw [E_eq t117 (Nat.le_of_ble_eq_true rfl)]; simp only [F117, go_sem, seval]; rfl
theorem e217 (l : List Int) (hl : l.length ≤ 1048576) : E T 217 [.ro 1 (l.map iv)] [] = some (.own 1 (l.map iv), []) := by
  rw [E_eqW t217 (Nat.le_of_ble_eq_true rfl)]
  cases l with
  | nil => simp only [F217, go_sem, seval, bnd_ite]
  | cons x xs =>
    have e := iv_mi
    have h : (xs.length + 1) * 8 ≤ 140737488355328 := by simp only [List.length_cons] at hl; omega
    simp only [F217, iv, go_sem, seval, bnd_ite, h]
theorem e141 : E T 141 [.int .i64 0] [] = some (.agg [.int .i64 0, .int .i64 0, .own 1 [.int .i64 0, .int .i64 0]], []) := by
  rw [E_eq t141 (Nat.le_of_ble_eq_true rfl)]
  simp only [F141, go_sem, seval, bnd_ite]
theorem e143 : E T 143 [.int .i64 0] [] = some (.agg [.int .i64 0, .int .i64 0, .own 1 [.int .i64 0, .int .i64 0]], []) := by
  rw [E_eq t143 (Nat.le_of_ble_eq_true rfl)]
  simp only [F143, go_sem, seval, bnd_ite]
theorem e144 (x : Ino) (h : x.sm) : E T 144 [ino x] [] = some (inoO x, []) := by
  rw [E_eqW t144 (Nat.le_of_ble_eq_true rfl)]
  have e1 := e217 x.ptrs h
  have htk : (List.map iv x.ptrs).take x.ptrs.length = List.map iv x.ptrs := List.take_of_length_le (by simp)
  simp only [ino, F144, go_sem, seval, bnd_ite, e1, inoO, htk]
theorem e142 (x : Ino) (h : x.sm) : E T 142 [ino x] [] = some (inoO x, []) := by
  rw [E_eqW t142 (Nat.le_of_ble_eq_true rfl)]
  obtain ⟨a, b, l⟩ := x
  cases l with
  | nil => simp only [ino, F142, go_sem, seval, bnd_ite, inoO]
  | cons y ys =>
    have h : (ys.length + 1) * 8 ≤ 140737488355328 := by unfold Ino.sm at h; simp only [List.length_cons] at h; omega
    simp only [ino, F142, iv, go_sem, seval, bnd_ite, h, inoO]
end Go.Proofs.Ytaaajjinpppgeaa
/- ImageBlock: copies of blocks. Own work; no condition. -/
set_option linter.unusedVariables false
set_option linter.unusedSimpArgs false
set_option linter.unusedSectionVars false
namespace Go.Proofs.Ytaaajjinpppgeaa
open Go Go.Abs
set_option maxRecDepth 100000
def blk0 : Blk := ⟨false, [], ⟨#[]⟩⟩
theorem e148 (x : Blk) (h : x.sm) : E T 148 [blk x] [] = some (blkO x, []) := by
  rw [E_eqW t148 (Nat.le_of_ble_eq_true rfl)]
  obtain ⟨a, l, b⟩ := x
  cases l with
  | nil => simp only [blk, F148, go_sem, seval, bnd_ite, blkO]
  | cons y ys =>
    have h : (ys.length + 1) * 24 ≤ 140737488355328 := by unfold Blk.sm at h; simp only [List.length_cons] at h; omega
    simp only [blk, F148, slt, go_sem, seval, bnd_ite, h, blkO]
theorem e147 (x : Blk) (h : x.sm) : E T 147 [blk x] [] = some (blkO x, []) := by
  rw [E_eqW t147 (Nat.le_of_ble_eq_true rfl)]
  obtain ⟨a, l, b⟩ := x
  cases l with
  | nil => simp only [blk, F147, go_sem, seval, bnd_ite, blkO]
  | cons y ys =>
    have h : (ys.length + 1) * 24 ≤ 140737488355328 := by unfold Blk.sm at h; simp only [List.length_cons] at h; omega
    simp only [blk, F147, slt, go_sem, seval, bnd_ite, h, blkO]
theorem e149n (x : Dsk) (i : Int) (hc : inside i 1 x.blks.length = false) : E T 149 [dsk x, .int .i64 i] [] = some (blk blk0, []) := by
  rw [E_eqW t149 (Nat.le_of_ble_eq_true rfl)]
  simp only [dsk, F149, go_sem, seval, bnd_ite, e117i, hc, blk, blk0, List.map_nil]
theorem e149 (x : Dsk) (i : Int) (hl : x.blks.length ≤ 1048576) (hc : inside i 1 x.blks.length = true) (p : Blk) (hp : x.blks[(i - 1).toNat]? = some p) : E T 149 [dsk x, .int .i64 i] [] = some (blk p, []) := by
  rw [E_eqW t149 (Nat.le_of_ble_eq_true rfl)]
  have hc' := hc
  simp only [inside, Bool.and_eq_true, decide_eq_true_eq] at hc'
  have gp : (x.blks.map blk).getD (i - 1).toNat .undef = .agg [.bool p.dir, .ro 2 (p.slots.map slt), .str p.text] := gD_map hp
  have b1 : 0 ≤ i - 1 := by omega
  have b2 : i - 1 < (x.blks.length : Int) := by omega
  simp only [dsk, F149, go_sem, seval, bnd_ite, e117i, hc, gp, b1, b2, w_i64 (i - 1) (by omega), blk]
/-- What one thing that leans does to a block. -/
def ibStep (i : Int) (ss : List Slt) (d : Dp) : List Slt :=
  if d.block = i ∧ 0 ≤ d.slot ∧ d.slot < (ss.length : Int) then
    (if d.kind = 2 then ss.set d.slot.toNat ⟨⟨#[]⟩, 0⟩ else if d.kind = 4 ∧ 0 < d.after then ss.set d.slot.toNat ⟨d.name, d.ino⟩ else ss)
  else ss
theorem ibStep_len (i : Int) (ss : List Slt) (d : Dp) : (ibStep i ss d).length = ss.length := by unfold ibStep; (repeat' split) <;> simp
theorem ibFold_len (i : Int) (l : List Dp) : ∀ ss : List Slt, (l.foldl (ibStep i) ss).length = ss.length := by
  induction l with
  | nil => intro ss; rfl
  | cons d l ih => intro ss; rw [List.foldl_cons, ih, ibStep_len]
end Go.Proofs.Ytaaajjinpppgeaa
/- Loops over a row: what is carried, what is looked for. Own work; no condition. -/
set_option linter.unusedVariables false
set_option linter.unusedSimpArgs false
set_option linter.unusedSectionVars false
namespace Go.Proofs.Ytaaajjinpppgeaa
open Go Go.Abs
section
variable {T : FuncId → Option EF} {b : Nat} {hd : List Vw} {x : EC} {α β : Type}
/-- A loop over a row that turns what is carried, and leaves behind the last one. -/
theorem XL_each (l : List α) (f : β → α → β) (S : Nat → β → St) (I : Nat → β → Prop) (Q : β → AX × St → Prop)
    (step : ∀ i a p, l[i]? = some p → i < l.length → I i a → XG T b hd x (S i a) = some (.normal, S (i + 1) (f a p)) ∧ I (i + 1) (f a p))
    (last : ∀ a, I l.length a → Stops (XG T b hd x (S l.length a)) (Q a)) (a : β) (ha : I 0 a) : ∃ r, XL T b hd x (S 0 a) = some r ∧ Q (l.foldl f a) r := by
  have key : ∀ k i a, i + k = l.length → I i a → ∃ r, XL T b hd x (S i a) = some r ∧ Q ((l.drop i).foldl f a) r := by
    intro k
    induction k with
    | zero =>
      intro i a hi hI
      have : i = l.length := by omega
      subst this
      obtain ⟨r, h1, h2, h3⟩ := last a hI
      exact ⟨r, XL_out h1 h2, by simpa using h3⟩
    | succ k ih =>
      intro i a hi hI
      have hlt : i < l.length := by omega
      obtain ⟨h1, h2⟩ := step i a l[i] (by simp [hlt]) hlt hI
      obtain ⟨r, h3, h4⟩ := ih (i + 1) (f a l[i]) (by omega) h2
      refine ⟨r, by rw [XL_eq, h1]; exact h3, ?_⟩
      rw [List.drop_eq_getElem_cons hlt]; exact h4
  obtain ⟨r, h1, h2⟩ := key l.length 0 a (by omega) ha
  exact ⟨r, h1, by simpa using h2⟩
/-- A loop over a row that looks for the first one that fits. -/
theorem XL_find (l : List α) (P : α → Bool) (S : Nat → St) (Q : Option Nat → AX × St → Prop)
    (step : ∀ i p, l[i]? = some p → i < l.length → P p = false → (∀ q ∈ l.take i, P q = false) → XG T b hd x (S i) = some (.normal, S (i + 1)))
    (hit : ∀ i p, l[i]? = some p → i < l.length → P p = true → (∀ q ∈ l.take i, P q = false) → Stops (XG T b hd x (S i)) (Q (some i)))
    (last : (∀ q ∈ l, P q = false) → Stops (XG T b hd x (S l.length)) (Q none)) : ∃ r, XL T b hd x (S 0) = some r ∧ Q (l.findIdx? P) r := by
  have key : ∀ k i, i + k = l.length → (∀ q ∈ l.take i, P q = false) → ∃ r, XL T b hd x (S i) = some r ∧ Q (((l.drop i).findIdx? P).map (· + i)) r := by
    intro k
    induction k with
    | zero =>
      intro i hi hp
      have : i = l.length := by omega
      subst this
      rw [List.take_length] at hp
      obtain ⟨r, h1, h2, h3⟩ := last hp
      exact ⟨r, XL_out h1 h2, by simpa using h3⟩
    | succ k ih =>
      intro i hi hp
      have hlt : i < l.length := by omega
      have hg : l[i]? = some l[i] := by simp [hlt]
      rw [List.drop_eq_getElem_cons hlt, List.findIdx?_cons]
      cases hP : P l[i] with
      | true =>
        obtain ⟨r, h1, h2, h3⟩ := hit i l[i] hg hlt hP hp
        exact ⟨r, XL_out h1 h2, by simpa [hP] using h3⟩
      | false =>
        have h1 := step i l[i] hg hlt hP hp
        obtain ⟨r, h3, h4⟩ := ih (i + 1) (by omega) (fun q hq => by
          rw [take_snoc hg, List.mem_append, List.mem_singleton] at hq
          rcases hq with hq | rfl
          · exact hp q hq
          · exact hP)
        refine ⟨r, by rw [XL_eq, h1]; exact h3, ?_⟩
        rw [if_neg (by simp)]
        have e : ((((l.drop (i + 1)).findIdx? P).map (· + 1)).map (· + i)) = ((l.drop (i + 1)).findIdx? P).map (· + (i + 1)) := by
          cases (l.drop (i + 1)).findIdx? P with
          | none => rfl
          | some n => simp only [Option.map_some]; congr 1; omega
        rw [e]; exact h4
  obtain ⟨r, h1, h2⟩ := key l.length 0 (by omega) (by simp)
  refine ⟨r, h1, ?_⟩
  have e : ((l.drop 0).findIdx? P).map (· + 0) = l.findIdx? P := by cases h : l.findIdx? P <;> simp [h]
  rw [e] at h2; exact h2
end
/-- A loop over a row that looks whether all are right. -/
theorem XL_all {T : FuncId → Option EF} {b : Nat} {hd : List Vw} {x : EC} {α : Type} (l : List α) (P : α → Bool) (S : Nat → St) (Qx Qr : AX × St → Prop)
    (step : ∀ i p, l[i]? = some p → i < l.length → P p = true → (∀ q ∈ l.take i, P q = true) → XG T b hd x (S i) = some (.normal, S (i + 1)))
    (hit : ∀ i p, l[i]? = some p → i < l.length → P p = false → (∀ q ∈ l.take i, P q = true) → Stops (XG T b hd x (S i)) Qr)
    (last : (∀ q ∈ l, P q = true) → Stops (XG T b hd x (S l.length)) Qx) : ∃ r, XL T b hd x (S 0) = some r ∧ (l.all P = true ∧ Qx r ∨ l.all P = false ∧ Qr r) := by
  obtain ⟨r, h1, h2⟩ := XL_find (T := T) (b := b) (hd := hd) (x := x) l (fun p => !P p) S (fun o r => (o = none → Qx r) ∧ (o ≠ none → Qr r))
    (fun i p h1 h2 h3 h4 => step i p h1 h2 (by simpa using h3) (fun q hq => by simpa using h4 q hq))
    (fun i p h1 h2 h3 h4 => by
      obtain ⟨r, k1, k2, k3⟩ := hit i p h1 h2 (by simpa using h3) (fun q hq => by simpa using h4 q hq)
      exact ⟨r, k1, k2, by simp, fun _ => k3⟩)
    (fun h => by
      obtain ⟨r, k1, k2, k3⟩ := last (fun q hq => by simpa using h q hq)
      exact ⟨r, k1, k2, fun _ => k3, by simp⟩)
  refine ⟨r, h1, ?_⟩
  cases e : l.all P with
  | true => exact .inl ⟨rfl, h2.1 (by simpa using e)⟩
  | false => exact .inr ⟨rfl, h2.2 (by simpa using e)⟩
theorem find_none {α : Type} {l : List α} {P : α → Bool} : l.findIdx? P = none ↔ ∀ q ∈ l, P q = false := by simp
theorem stops_none {Φ : AX × St → Prop} : ¬ Stops none Φ := by rintro ⟨r, h, _⟩; cases h
end Go.Proofs.Ytaaajjinpppgeaa
/- Copies of disks. Own work; no condition. -/
set_option linter.unusedVariables false
set_option linter.unusedSimpArgs false
set_option linter.unusedSectionVars false
namespace Go.Proofs.Ytaaajjinpppgeaa
open Go Go.Abs
set_option maxRecDepth 100000
theorem e238 (l : List Bool) (hl : l.length ≤ 1048576) : E T 238 [.ro 1 (l.map bv)] [] = some (.own 1 (l.map bv), []) := by
  rw [E_eqW t238 (Nat.le_of_ble_eq_true rfl)]
  cases l with
  | nil => simp only [F238, go_sem, seval, bnd_ite]
  | cons x xs =>
    have h : (xs.length + 1) * 1 ≤ 140737488355328 := by simp only [List.length_cons] at hl; omega
    simp only [F238, bv, go_sem, seval, bnd_ite, h]
theorem e199 (a b : List Bool) (ha : a.length ≤ 1048576) (hb : b.length ≤ 1048576) : E T 199 [.agg [.ro 1 (a.map bv), .ro 1 (b.map bv)]] [] = some (.agg [.own 1 (a.map bv), .own 1 (b.map bv)], []) := by
  rw [E_eqW t199 (Nat.le_of_ble_eq_true rfl)]
  have e1 := e238 a ha
  have e2 := e238 b hb
  have t1 : (a.map bv).take a.length = a.map bv := List.take_of_length_le (by simp)
  have t2 : (b.map bv).take b.length = b.map bv := List.take_of_length_le (by simp)
  simp only [F199, go_sem, seval, bnd_ite, e1, e2, t1, t2]
theorem e233 (a b : List Bool) (ha : a.length ≤ 1048576) (hb : b.length ≤ 1048576) : E T 233 [.agg [.ro 1 (a.map bv), .ro 1 (b.map bv)]] [] = some (.agg [.own 1 (a.map bv), .own 1 (b.map bv)], []) := by
  rw [E_eqW t233 (Nat.le_of_ble_eq_true rfl)]
  cases a with
  | nil =>
    cases b with
    | nil => simp only [F233, go_sem, seval, bnd_ite]
    | cons y ys =>
      have h : (ys.length + 1) * 1 ≤ 140737488355328 := by simp only [List.length_cons] at hb; omega
      simp only [F233, bv, go_sem, seval, bnd_ite, h]
  | cons x xs =>
    have h1 : (xs.length + 1) * 1 ≤ 140737488355328 := by simp only [List.length_cons] at ha; omega
    cases b with
    | nil => simp only [F233, bv, go_sem, seval, bnd_ite, h1]
    | cons y ys =>
      have h : (ys.length + 1) * 1 ≤ 140737488355328 := by simp only [List.length_cons] at hb; omega
      simp only [F233, bv, go_sem, seval, bnd_ite, h, h1]
theorem take_map {α : Type} {f : α → AV} {l : List α} {i : Nat} {p : α} (hp : l[i]? = some p) : (l.take i).map f ++ [f p] = (l.take (i + 1)).map f := by rw [take_snoc hp, List.map_append]; rfl
theorem takes_len {α : Type} {f : α → AV} {l : List α} {i : Nat} (hi : i ≤ l.length) : ((l.take i).map f).length = i := by rw [List.length_map, List.length_take]; omega
theorem snoc_facts {α : Type} {f : α → AV} (hc : ∀ x, coolX (f x) = true) {l : List α} {i : Nat} {p : α} (hp : l[i]? = some p) :
    ∃ M, (l.take i).map f = M ∧ M.length = i ∧ (∀ g, mapIdL g M = M) ∧ (∀ u, idsL u M = []) ∧ M.take i = M ∧ M ++ [f p] = (l.take (i + 1)).map f := by
  have hi := (List.getElem?_eq_some_iff.1 hp).1
  have hl : ((l.take i).map f).length = i := takes_len (Nat.le_of_lt hi)
  exact ⟨_, rfl, hl, fun g => mi_map g f _ hc, fun u => is_map u f _ hc, List.take_of_length_le (by omega), take_map hp⟩
def cpBox (x : Dsk) : AV := .agg [.ro 1 (x.used.map bv), .ro 1 (x.taken.map bv), .ro 3 (x.inos.map ino), .ro 3 (x.blks.map blk)]
theorem in159a (x : Dsk) (h : x.sm) : ∃ r, XL T 0 H159_3 L159_3 ⟨[(1, .ptr 0 0 0), (2, .ptr 1 0 0), (3, .ptr 2 0 0), (13, .ro 3 (x.inos.map ino)), (14, .int .i64 x.inos.length), (15, .int .i64 0)],
      [some (4, [cpBox x]), some (4, [.agg [.nil, .nil, .nil, .nil]]), some (4, [.agg [.own 1 (x.used.map bv), .own 1 (x.taken.map bv), .sl 3 0 0, .nil]]), some (3, [])]⟩ = some r ∧
    (r.1 = .exit 0 ∧ lookA r.2.env 1 = .ptr 0 0 0 ∧ lookA r.2.env 2 = .ptr 1 0 0 ∧ lookA r.2.env 3 = .ptr 2 0 0 ∧
      r.2.mem = [some (4, [cpBox x]), some (4, [.agg [.nil, .nil, .nil, .nil]]), some (4, [.agg [.own 1 (x.used.map bv), .own 1 (x.taken.map bv), .sl 3 0 x.inos.length, .nil]]), some (3, x.inos.map inoO)]) := by
  have hl := h.inos
  refine XL_each x.inos (fun (_ : Unit) _ => ()) (fun i _ => ⟨[(1, .ptr 0 0 0), (2, .ptr 1 0 0), (3, .ptr 2 0 0), (13, .ro 3 (x.inos.map ino)), (14, .int .i64 x.inos.length), (15, .int .i64 (i : Nat))],
      [some (4, [cpBox x]), some (4, [.agg [.nil, .nil, .nil, .nil]]), some (4, [.agg [.own 1 (x.used.map bv), .own 1 (x.taken.map bv), .sl 3 0 i, .nil]]), some (3, (x.inos.take i).map inoO)]⟩) (fun _ _ => True)
    (fun _ r => r.1 = .exit 0 ∧ lookA r.2.env 1 = .ptr 0 0 0 ∧ lookA r.2.env 2 = .ptr 1 0 0 ∧ lookA r.2.env 3 = .ptr 2 0 0 ∧
      r.2.mem = [some (4, [cpBox x]), some (4, [.agg [.nil, .nil, .nil, .nil]]), some (4, [.agg [.own 1 (x.used.map bv), .own 1 (x.taken.map bv), .sl 3 0 x.inos.length, .nil]]), some (3, x.inos.map inoO)]) ?step ?last () trivial
  case step =>
    intro i _ p hp hi _
    refine ⟨?_, trivial⟩
    have hi1 : (i : Int) < (x.inos.length : Int) := by omega
    have gp : (x.inos.map ino).getD i .undef = .agg [.int .i64 p.kind, .int .i64 p.links, .ro 1 (p.ptrs.map iv)] := gD_map hp
    have e1 := e144 p (h.ino p (List.mem_of_getElem? hp))
    unfold ino inoO at e1
    obtain ⟨M, hM, ml, mi, ms, mt, ma⟩ := snoc_facts inoO_cool hp
    unfold inoO at ma
    have htk : (List.map iv p.ptrs).take p.ptrs.length = List.map iv p.ptrs := List.take_of_length_le (by simp)
    have hap : (i + 1) * 40 ≤ 140737488355328 := by omega
    unfold cpBox
    simp only [hM]
    simp only [XG, L159_3, h159_3, go_sem, seval, bnd_ite, hi1, gp, e1, htk, ml, mi, ms, mt, ma, hap, Int.natCast_nonneg, w_i64 ((i : Int) + 1) (by omega)]
    rfl
  case last =>
    intro _ _
    unfold cpBox
    simp only [XG, L159_3, h159_3, go_sem, seval, bnd_ite, Int.lt_irrefl, decide_false]
    exact .mk (by simp) ⟨rfl, rfl, rfl, rfl, rfl⟩
theorem in159b (x : Dsk) (h : x.sm) : ∃ r, XL T 0 H159_9 L159_9 ⟨[(2, .ptr 0 0 0), (3, .ptr 1 0 0), (28, .ro 3 (x.blks.map blk)), (29, .int .i64 x.blks.length), (30, .int .i64 0)],
      [some (4, [.agg [.nil, .nil, .nil, .nil]]), some (4, [.agg [.own 1 (x.used.map bv), .own 1 (x.taken.map bv), .own 3 (x.inos.map inoO), .sl 2 0 0]]), some (3, [])]⟩ = some r ∧
    (r.1 = .exit 2 ∧ lookA r.2.env 2 = .ptr 0 0 0 ∧ lookA r.2.env 3 = .ptr 1 0 0 ∧
      r.2.mem = [some (4, [.agg [.nil, .nil, .nil, .nil]]), some (4, [.agg [.own 1 (x.used.map bv), .own 1 (x.taken.map bv), .own 3 (x.inos.map inoO), .sl 2 0 x.blks.length]]), some (3, x.blks.map blkO)]) := by
  have hl := h.blks
  refine XL_each x.blks (fun (_ : Unit) _ => ()) (fun i _ => ⟨[(2, .ptr 0 0 0), (3, .ptr 1 0 0), (28, .ro 3 (x.blks.map blk)), (29, .int .i64 x.blks.length), (30, .int .i64 (i : Nat))],
      [some (4, [.agg [.nil, .nil, .nil, .nil]]), some (4, [.agg [.own 1 (x.used.map bv), .own 1 (x.taken.map bv), .own 3 (x.inos.map inoO), .sl 2 0 i]]), some (3, (x.blks.take i).map blkO)]⟩) (fun _ _ => True)
    (fun _ r => r.1 = .exit 2 ∧ lookA r.2.env 2 = .ptr 0 0 0 ∧ lookA r.2.env 3 = .ptr 1 0 0 ∧
      r.2.mem = [some (4, [.agg [.nil, .nil, .nil, .nil]]), some (4, [.agg [.own 1 (x.used.map bv), .own 1 (x.taken.map bv), .own 3 (x.inos.map inoO), .sl 2 0 x.blks.length]]), some (3, x.blks.map blkO)]) ?step ?last () trivial
  case step =>
    intro i _ p hp hi _
    refine ⟨?_, trivial⟩
    have hi1 : (i : Int) < (x.blks.length : Int) := by omega
    have gp : (x.blks.map blk).getD i .undef = .agg [.bool p.dir, .ro 2 (p.slots.map slt), .str p.text] := gD_map hp
    have e1 := e148 p (h.blk p (List.mem_of_getElem? hp))
    unfold blk blkO at e1
    obtain ⟨M, hM, ml, mi, ms, mt, ma⟩ := snoc_facts blkO_cool hp
    unfold blkO at ma
    have htk : (List.map slt p.slots).take p.slots.length = List.map slt p.slots := List.take_of_length_le (by simp)
    have hap : (i + 1) * 48 ≤ 140737488355328 := by omega
    simp only [hM]
    simp only [XG, L159_9, h159_9, go_sem, seval, bnd_ite, hi1, gp, e1, htk, ml, mi, ms, mt, ma, hap, Int.natCast_nonneg, w_i64 ((i : Int) + 1) (by omega)]
    rfl
  case last =>
    intro _ _
    simp only [XG, L159_9, h159_9, go_sem, seval, bnd_ite, Int.lt_irrefl, decide_false]
    exact .mk (by simp) ⟨rfl, rfl, rfl, rfl⟩
theorem e159 (x : Dsk) (h : x.sm) : E T 159 [dsk x] [] = some (dskO x, []) := by
  rw [E_eq t159 (Nat.le_of_ble_eq_true rfl)]
  have e1 := e199 x.used x.taken h.used h.taken
  obtain ⟨⟨y, e, m⟩, k1, kx, k2, k3, k4, km⟩ := in159a x h
  simp only at kx k2 k3 k4 km; subst kx; subst km
  obtain ⟨⟨y, e', m⟩, l1, lx, l2, l3, lm⟩ := in159b x h
  simp only at lx l2 l3 lm; subst lx; subst lm
  unfold cpBox at k1
  have t1 : (x.used.map bv).take x.used.length = x.used.map bv := List.take_of_length_le (by simp)
  have t2 : (x.taken.map bv).take x.taken.length = x.taken.map bv := List.take_of_length_le (by simp)
  have t3 : (x.inos.map inoO).take x.inos.length = x.inos.map inoO := List.take_of_length_le (by simp)
  have t4 : (x.blks.map blkO).take x.blks.length = x.blks.map blkO := List.take_of_length_le (by simp)
  simp only [dsk, F159, cpBox, h159_3, h159_9, go_sem, seval, bnd_ite, e1, k1, k2, k3, k4, l1, l2, l3, dskO, t1, t2, t3, t4]
theorem in158a (x : Dsk) (h : x.sm) : ∃ r, XL T 0 H158_3 L158_3 ⟨[(1, .ptr 0 0 0), (2, .ptr 1 0 0), (3, .ptr 2 0 0), (4, .int .i64 0)],
      [some (4, [cpBox x]), some (4, [.agg [.nil, .nil, .nil, .nil]]), some (4, [.agg [.own 1 (x.used.map bv), .own 1 (x.taken.map bv), .sl 3 0 0, .nil]]), some (3, [])]⟩ = some r ∧
    (r.1 = .exit 0 ∧ lookA r.2.env 1 = .ptr 0 0 0 ∧ lookA r.2.env 2 = .ptr 1 0 0 ∧ lookA r.2.env 3 = .ptr 2 0 0 ∧
      r.2.mem = [some (4, [cpBox x]), some (4, [.agg [.nil, .nil, .nil, .nil]]), some (4, [.agg [.own 1 (x.used.map bv), .own 1 (x.taken.map bv), .sl 3 0 x.inos.length, .nil]]), some (3, x.inos.map inoO)]) := by
  have hl := h.inos
  refine XL_each x.inos (fun (_ : Unit) _ => ()) (fun i _ => ⟨[(1, .ptr 0 0 0), (2, .ptr 1 0 0), (3, .ptr 2 0 0), (4, .int .i64 (i : Nat))],
      [some (4, [cpBox x]), some (4, [.agg [.nil, .nil, .nil, .nil]]), some (4, [.agg [.own 1 (x.used.map bv), .own 1 (x.taken.map bv), .sl 3 0 i, .nil]]), some (3, (x.inos.take i).map inoO)]⟩) (fun _ _ => True)
    (fun _ r => r.1 = .exit 0 ∧ lookA r.2.env 1 = .ptr 0 0 0 ∧ lookA r.2.env 2 = .ptr 1 0 0 ∧ lookA r.2.env 3 = .ptr 2 0 0 ∧
      r.2.mem = [some (4, [cpBox x]), some (4, [.agg [.nil, .nil, .nil, .nil]]), some (4, [.agg [.own 1 (x.used.map bv), .own 1 (x.taken.map bv), .sl 3 0 x.inos.length, .nil]]), some (3, x.inos.map inoO)]) ?step ?last () trivial
  case step =>
    intro i _ p hp hi _
    refine ⟨?_, trivial⟩
    have hi1 : (i : Int) < (x.inos.length : Int) := by omega
    have gp : (x.inos.map ino).getD i .undef = .agg [.int .i64 p.kind, .int .i64 p.links, .ro 1 (p.ptrs.map iv)] := gD_map hp
    have e1 := e142 p (h.ino p (List.mem_of_getElem? hp))
    unfold ino inoO at e1
    obtain ⟨M, hM, ml, mi, ms, mt, ma⟩ := snoc_facts inoO_cool hp
    unfold inoO at ma
    have htk : (List.map iv p.ptrs).take p.ptrs.length = List.map iv p.ptrs := List.take_of_length_le (by simp)
    have hap : (i + 1) * 40 ≤ 140737488355328 := by omega
    unfold cpBox
    simp only [hM]
    simp only [XG, L158_3, h158_3, go_sem, seval, bnd_ite, hi1, gp, e1, htk, ml, mi, ms, mt, ma, hap, Int.natCast_nonneg, w_i64 ((i : Int) + 1) (by omega)]
    rfl
  case last =>
    intro _ _
    unfold cpBox
    simp only [XG, L158_3, h158_3, go_sem, seval, bnd_ite, Int.lt_irrefl, decide_false]
    exact .mk (by simp) ⟨rfl, rfl, rfl, rfl, rfl⟩
theorem in158b (x : Dsk) (h : x.sm) : ∃ r, XL T 0 H158_8 L158_8 ⟨[(1, .ptr 0 0 0), (2, .ptr 1 0 0), (3, .ptr 2 0 0), (5, .int .i64 0)],
      [some (4, [cpBox x]), some (4, [.agg [.nil, .nil, .nil, .nil]]), some (4, [.agg [.own 1 (x.used.map bv), .own 1 (x.taken.map bv), .own 3 (x.inos.map inoO), .sl 3 0 0]]), some (3, [])]⟩ = some r ∧
    (r.1 = .exit 2 ∧ lookA r.2.env 2 = .ptr 1 0 0 ∧ lookA r.2.env 3 = .ptr 2 0 0 ∧
      r.2.mem = [some (4, [cpBox x]), some (4, [.agg [.nil, .nil, .nil, .nil]]), some (4, [.agg [.own 1 (x.used.map bv), .own 1 (x.taken.map bv), .own 3 (x.inos.map inoO), .sl 3 0 x.blks.length]]), some (3, x.blks.map blkO)]) := by
  have hl := h.blks
  refine XL_each x.blks (fun (_ : Unit) _ => ()) (fun i _ => ⟨[(1, .ptr 0 0 0), (2, .ptr 1 0 0), (3, .ptr 2 0 0), (5, .int .i64 (i : Nat))],
      [some (4, [cpBox x]), some (4, [.agg [.nil, .nil, .nil, .nil]]), some (4, [.agg [.own 1 (x.used.map bv), .own 1 (x.taken.map bv), .own 3 (x.inos.map inoO), .sl 3 0 i]]), some (3, (x.blks.take i).map blkO)]⟩) (fun _ _ => True)
    (fun _ r => r.1 = .exit 2 ∧ lookA r.2.env 2 = .ptr 1 0 0 ∧ lookA r.2.env 3 = .ptr 2 0 0 ∧
      r.2.mem = [some (4, [cpBox x]), some (4, [.agg [.nil, .nil, .nil, .nil]]), some (4, [.agg [.own 1 (x.used.map bv), .own 1 (x.taken.map bv), .own 3 (x.inos.map inoO), .sl 3 0 x.blks.length]]), some (3, x.blks.map blkO)]) ?step ?last () trivial
  case step =>
    intro i _ p hp hi _
    refine ⟨?_, trivial⟩
    have hi1 : (i : Int) < (x.blks.length : Int) := by omega
    have gp : (x.blks.map blk).getD i .undef = .agg [.bool p.dir, .ro 2 (p.slots.map slt), .str p.text] := gD_map hp
    have e1 := e147 p (h.blk p (List.mem_of_getElem? hp))
    unfold blk blkO at e1
    obtain ⟨M, hM, ml, mi, ms, mt, ma⟩ := snoc_facts blkO_cool hp
    unfold blkO at ma
    have htk : (List.map slt p.slots).take p.slots.length = List.map slt p.slots := List.take_of_length_le (by simp)
    have hap : (i + 1) * 48 ≤ 140737488355328 := by omega
    unfold cpBox
    simp only [hM]
    simp only [XG, L158_8, h158_8, go_sem, seval, bnd_ite, hi1, gp, e1, htk, ml, mi, ms, mt, ma, hap, Int.natCast_nonneg, w_i64 ((i : Int) + 1) (by omega)]
    rfl
  case last =>
    intro _ _
    unfold cpBox
    simp only [XG, L158_8, h158_8, go_sem, seval, bnd_ite, Int.lt_irrefl, decide_false]
    exact .mk (by simp) ⟨rfl, rfl, rfl, rfl⟩
theorem e158 (x : Dsk) (h : x.sm) : E T 158 [dsk x] [] = some (dskO x, []) := by
  rw [E_eq t158 (Nat.le_of_ble_eq_true rfl)]
  have e1 := e233 x.used x.taken h.used h.taken
  obtain ⟨⟨y, e, m⟩, k1, kx, k2, k3, k4, km⟩ := in158a x h
  simp only at kx k2 k3 k4 km; subst kx; subst km
  obtain ⟨⟨y, e', m⟩, l1, lx, l2, l3, lm⟩ := in158b x h
  simp only at lx l2 l3 lm; subst lx; subst lm
  unfold cpBox at k1 l1
  have t1 : (x.used.map bv).take x.used.length = x.used.map bv := List.take_of_length_le (by simp)
  have t2 : (x.taken.map bv).take x.taken.length = x.taken.map bv := List.take_of_length_le (by simp)
  have t3 : (x.inos.map inoO).take x.inos.length = x.inos.map inoO := List.take_of_length_le (by simp)
  have t4 : (x.blks.map blkO).take x.blks.length = x.blks.map blkO := List.take_of_length_le (by simp)
  simp only [dsk, F158, cpBox, h158_3, h158_8, go_sem, seval, bnd_ite, e1, k1, k2, k3, k4, l1, l2, l3, dskO, t1, t2, t3, t4]
end Go.Proofs.Ytaaajjinpppgeaa
/- Copies of a memory; the first that is free. Own work; no condition. -/
set_option linter.unusedVariables false
set_option linter.unusedSimpArgs false
set_option linter.unusedSectionVars false
namespace Go.Proofs.Ytaaajjinpppgeaa
open Go Go.Abs
set_option maxRecDepth 100000
def ffree (l : List Bool) : Int := match l.findIdx? (fun b => !b) with | some i => (i : Nat) + 1 | none => 0
theorem e188 (l : List Bool) (hl : l.length ≤ 1048576) : E T 188 [.ro 1 (l.map bv)] [] = some (.int .i64 (ffree l), []) := by
  rw [E_eq t188 (Nat.le_of_ble_eq_true rfl)]
  unfold ffree
  refine (XL_find (T := T) (b := 0) (hd := H188_2) (x := L188_2) l (fun b => !b) (fun i => ⟨[(0, .ro 1 (l.map bv)), (3, .int .i64 (i : Nat))], []⟩)
    (fun o r => match o with | some i => r.1 = .ret ∧ lookA r.2.env 2 = .int .i64 ((i : Nat) + 1) | none => r.1 = .exit 0) ?step ?hit ?last).elim ?main
  case step =>
    intro i b hb hi hP _
    have k1 : (i : Int) < (l.length : Int) := by omega
    have gb : (l.map bv).getD i .undef = .bool b := gD_map hb
    have hw := w_i64 ((i : Int) + 1) (by omega)
    cases b with
    | false => cases hP
    | true =>
      simp only [XG, L188_2, h188_2, go_sem, seval, bnd_ite, k1, gb, hw, Int.natCast_nonneg, decide_true, Bool.not_true, Bool.false_eq_true, if_false]
      first | done | rfl
  case hit =>
    intro i b hb hi hP _
    have k1 : (i : Int) < (l.length : Int) := by omega
    have gb : (l.map bv).getD i .undef = .bool b := gD_map hb
    have hw := w_i64 ((i : Int) + 1) (by omega)
    cases b with
    | true => cases hP
    | false =>
      simp only [XG, L188_2, h188_2, go_sem, seval, bnd_ite, k1, gb, hw, Int.natCast_nonneg, decide_true, Bool.not_false, if_true]
      exact .mk (by simp) ⟨rfl, rfl⟩
  case last =>
    intro _
    simp only [XG, L188_2, h188_2, go_sem, seval, bnd_ite, Int.lt_irrefl, decide_false]
    exact .mk (by simp) rfl
  case main =>
  have hs0 : ((0 : Nat) : Int) = 0 := rfl
  rintro ⟨y, e, m⟩ ⟨k1, k2⟩
  rw [hs0] at k1
  cases hf : l.findIdx? (fun b => !b) with
  | none =>
    rw [hf] at k2; simp only at k2; subst k2
    simp only [F188, h188_2, go_sem, seval, bnd_ite, k1]
  | some i =>
    rw [hf] at k2; obtain ⟨kx, k2⟩ := k2; simp only at kx k2; subst kx
    simp only [F188, h188_2, go_sem, seval, bnd_ite, k1, k2]
theorem e244 (l : List Bool) (hl : l.length ≤ 1048576) : E T 244 [.ro 1 (l.map bv)] [] = some (.int .i64 (ffree l), []) := by
  rw [E_eq t244 (Nat.le_of_ble_eq_true rfl)]
  unfold ffree
  refine (XL_find (T := T) (b := 0) (hd := H244_2) (x := L244_2) l (fun b => !b) (fun i => ⟨[(5, .ro 1 (l.map bv)), (6, .int .i64 l.length), (7, .int .i64 (i : Nat))], []⟩)
    (fun o r => match o with | some i => r.1 = .ret ∧ lookA r.2.env 2 = .int .i64 ((i : Nat) + 1) | none => r.1 = .exit 0) ?step ?hit ?last).elim ?main
  case step =>
    intro i b hb hi hP _
    have k1 : (i : Int) < (l.length : Int) := by omega
    have gb : (l.map bv).getD i .undef = .bool b := gD_map hb
    have hw := w_i64 ((i : Int) + 1) (by omega)
    cases b with
    | false => cases hP
    | true =>
      simp only [XG, L244_2, h244_2, go_sem, seval, bnd_ite, k1, gb, hw, Int.natCast_nonneg, decide_true, Bool.not_true, Bool.false_eq_true, if_false]
      first | done | rfl
  case hit =>
    intro i b hb hi hP _
    have k1 : (i : Int) < (l.length : Int) := by omega
    have gb : (l.map bv).getD i .undef = .bool b := gD_map hb
    have hw := w_i64 ((i : Int) + 1) (by omega)
    cases b with
    | true => cases hP
    | false =>
      simp only [XG, L244_2, h244_2, go_sem, seval, bnd_ite, k1, gb, hw, Int.natCast_nonneg, decide_true, Bool.not_false, if_true]
      exact .mk (by simp) ⟨rfl, rfl⟩
  case last =>
    intro _
    simp only [XG, L244_2, h244_2, go_sem, seval, bnd_ite, Int.lt_irrefl, decide_false]
    exact .mk (by simp) rfl
  case main =>
  have hs0 : ((0 : Nat) : Int) = 0 := rfl
  rintro ⟨y, e, m⟩ ⟨k1, k2⟩
  rw [hs0] at k1
  cases hf : l.findIdx? (fun b => !b) with
  | none =>
    rw [hf] at k2; simp only at k2; subst k2
    simp only [F244, h244_2, go_sem, seval, bnd_ite, k1]
  | some i =>
    rw [hf] at k2; obtain ⟨kx, k2⟩ := k2; simp only at kx k2; subst kx
    simp only [F244, h244_2, go_sem, seval, bnd_ite, k1, k2]
theorem e241 (d : Dp) (h : d.sm) : E T 241 [dp d] [] = some (dpO d, []) := by
  rw [E_eq t241 (Nat.le_of_ble_eq_true rfl)]
  have e1 := e217 d.blocks h
  have tk : (d.blocks.map iv).take d.blocks.length = d.blocks.map iv := List.take_of_length_le (by simp)
  simp only [dp, dpO, F241, go_sem, seval, bnd_ite, e1, tk]
theorem e239 (l : List Dp) (hl : l.length ≤ 1048576) (hs : ∀ d ∈ l, d.sm) : E T 239 [.ro 11 (l.map dp)] [] = some (.own 11 (l.map dpO), []) := by
  rw [E_eqW t239 (Nat.le_of_ble_eq_true rfl)]
  refine (XL_each (T := T) (b := 0) (hd := H239_3) (x := L239_3) l (fun (_ : Unit) _ => ()) (fun i _ => ⟨[(3, .sl 0 0 i), (7, .ro 11 (l.map dp)), (8, .int .i64 l.length), (9, .int .i64 (i : Nat))], [some (11, (l.take i).map dpO)]⟩) (fun _ _ => True)
    (fun _ r => r.1 = .exit 0 ∧ lookA r.2.env 3 = .sl 0 0 l.length ∧ r.2.mem = [some (11, l.map dpO)]) ?step ?last () trivial).elim ?main
  case step =>
    intro i _ d hd hi _
    refine ⟨?_, trivial⟩
    have k1 : (i : Int) < (l.length : Int) := by omega
    have gd : (l.map dp).getD i .undef = .agg [.int .i64 d.id, .int .i64 d.kind, .int .i64 d.ino, .int .i64 d.ptr, .int .i64 d.block, .int .i64 d.slot, .str d.name, .bool d.bits, .bool d.other, .int .i64 d.after, .ro 1 (d.blocks.map iv)] := gD_map hd
    have e1 := e241 d (hs d (List.mem_of_getElem? hd))
    unfold dp dpO at e1
    obtain ⟨M, hM, ml, mi, ms, mt, ma⟩ := snoc_facts dpO_cool hd
    unfold dpO at ma
    have htk : (List.map iv d.blocks).take d.blocks.length = List.map iv d.blocks := List.take_of_length_le (by simp)
    have hap : (i + 1) * 104 ≤ 140737488355328 := by omega
    have hw := w_i64 ((i : Int) + 1) (by omega)
    simp only [hM]
    simp only [XG, L239_3, h239_3, go_sem, seval, bnd_ite, k1, gd, e1, htk, ml, mi, ms, mt, ma, hap, hw, Int.natCast_nonneg]
    first | done | rfl
  case last =>
    intro _ _
    simp only [XG, L239_3, h239_3, go_sem, seval, bnd_ite, Int.lt_irrefl, decide_false]
    exact .mk (by simp) ⟨rfl, rfl, by simp⟩
  case main =>
  have hs0 : ((0 : Nat) : Int) = 0 := rfl
  rintro ⟨y, e, m⟩ ⟨k1, kx, k2, km⟩
  simp only at kx k2 km; subst kx; subst km
  simp only [hs0, List.take_zero, List.map_nil] at k1
  have tk : (l.map dpO).take l.length = l.map dpO := List.take_of_length_le (by simp)
  simp only [F239, h239_3, go_sem, seval, bnd_ite, k1, k2, tk]
theorem e185 (x : Mm) (h : x.sm) : E T 185 [mm x] [] = some (mmO x, []) := by
  rw [E_eq t185 (Nat.le_of_ble_eq_true rfl)]
  have e1 := e159 x.disk h.disk
  have e2 := e238 x.dirty h.dirty
  have e3 := e239 x.deps h.deps h.dep
  unfold dsk dskO at e1
  have t1 : (x.disk.used.map bv).take x.disk.used.length = x.disk.used.map bv := List.take_of_length_le (by simp)
  have t2 : (x.disk.taken.map bv).take x.disk.taken.length = x.disk.taken.map bv := List.take_of_length_le (by simp)
  have t3 : (x.disk.inos.map inoO).take x.disk.inos.length = x.disk.inos.map inoO := List.take_of_length_le (by simp)
  have t4 : (x.disk.blks.map blkO).take x.disk.blks.length = x.disk.blks.map blkO := List.take_of_length_le (by simp)
  have t5 : (x.dirty.map bv).take x.dirty.length = x.dirty.map bv := List.take_of_length_le (by simp)
  have t6 : (x.deps.map dpO).take x.deps.length = x.deps.map dpO := List.take_of_length_le (by simp)
  simp only [mm, F185, go_sem, seval, bnd_ite, e1, e2, e3, t1, t2, t3, t4, t5, t6, mmO]
def mmBox (x : Mm) : AV := .agg [.ro 1 (x.disk.used.map bv), .ro 1 (x.disk.taken.map bv), .ro 3 (x.disk.inos.map ino), .ro 3 (x.disk.blks.map blk), .ro 1 (x.dirty.map bv), .ro 11 (x.deps.map dp), .int .i64 x.next]
def mmCp (x : Mm) (i : Nat) : AV := .agg [.own 1 (x.disk.used.map bv), .own 1 (x.disk.taken.map bv), .own 3 (x.disk.inos.map inoO), .own 3 (x.disk.blks.map blkO), .own 1 (x.dirty.map bv), .sl 3 0 i, .int .i64 x.next]
def mmNil : AV := .agg [.nil, .nil, .nil, .nil, .nil, .nil, .int .i64 0]
theorem in183 (x : Mm) (h : x.sm) : ∃ r, XL T 0 H183_3 L183_3 ⟨[(1, .ptr 0 0 0), (2, .ptr 1 0 0), (3, .ptr 2 0 0), (4, .int .i64 0)], [some (7, [mmBox x]), some (7, [mmNil]), some (7, [mmCp x 0]), some (11, [])]⟩ = some r ∧
    (r.1 = .exit 0 ∧ lookA r.2.env 2 = .ptr 1 0 0 ∧ lookA r.2.env 3 = .ptr 2 0 0 ∧ r.2.mem = [some (7, [mmBox x]), some (7, [mmNil]), some (7, [mmCp x x.deps.length]), some (11, x.deps.map dpO)]) := by
  have hl := h.deps
  refine XL_each x.deps (fun (_ : Unit) _ => ()) (fun i _ => ⟨[(1, .ptr 0 0 0), (2, .ptr 1 0 0), (3, .ptr 2 0 0), (4, .int .i64 (i : Nat))], [some (7, [mmBox x]), some (7, [mmNil]), some (7, [mmCp x i]), some (11, (x.deps.take i).map dpO)]⟩) (fun _ _ => True)
    (fun _ r => r.1 = .exit 0 ∧ lookA r.2.env 2 = .ptr 1 0 0 ∧ lookA r.2.env 3 = .ptr 2 0 0 ∧ r.2.mem = [some (7, [mmBox x]), some (7, [mmNil]), some (7, [mmCp x x.deps.length]), some (11, x.deps.map dpO)]) ?step ?last () trivial
  case step =>
    intro i _ d hd hi _
    refine ⟨?_, trivial⟩
    have k1 : (i : Int) < (x.deps.length : Int) := by omega
    have gd : (x.deps.map dp).getD i .undef = .agg [.int .i64 d.id, .int .i64 d.kind, .int .i64 d.ino, .int .i64 d.ptr, .int .i64 d.block, .int .i64 d.slot, .str d.name, .bool d.bits, .bool d.other, .int .i64 d.after, .ro 1 (d.blocks.map iv)] := gD_map hd
    have hds := h.dep d (List.mem_of_getElem? hd)
    unfold Dp.sm at hds
    obtain ⟨M, hM, ml, mi, ms, mt, ma⟩ := snoc_facts dpO_cool hd
    unfold dpO at ma
    have htk : (List.map iv d.blocks).take d.blocks.length = List.map iv d.blocks := List.take_of_length_le (by simp)
    have hap : (i + 1) * 104 ≤ 140737488355328 := by omega
    have hap2 : d.blocks.length * 8 ≤ 140737488355328 := by omega
    have hw := w_i64 ((i : Int) + 1) (by omega)
    unfold mmBox mmNil mmCp
    simp only [hM]
    cases hb : d.blocks with
    | nil =>
      rw [hb] at gd ma
      simp only [List.map_nil] at gd ma
      simp only [XG, L183_3, h183_3, go_sem, seval, bnd_ite, k1, gd, ml, mi, ms, mt, ma, hap, hw, Int.natCast_nonneg]
      first | done | rfl
    | cons q qs =>
      rw [hb] at gd ma hap2
      simp only [List.map_cons, iv, List.length_cons] at gd ma hap2
      have tq : (qs.map (fun z => AV.int .i64 z)).take qs.length = qs.map (fun z => AV.int .i64 z) := List.take_of_length_le (by simp)
      simp only [XG, L183_3, h183_3, iv, go_sem, seval, bnd_ite, k1, gd, tq, ml, mi, ms, mt, ma, hap, hap2, hw, Int.natCast_nonneg]
      first | done | rfl
  case last =>
    intro _ _
    unfold mmBox mmNil mmCp
    simp only [XG, L183_3, h183_3, go_sem, seval, bnd_ite, Int.lt_irrefl, decide_false]
    exact .mk (by simp) ⟨rfl, rfl, rfl, by simp⟩
theorem e183 (x : Mm) (h : x.sm) : E T 183 [mm x] [] = some (mmO x, []) := by
  rw [E_eqW t183 (Nat.le_of_ble_eq_true rfl)]
  have e1 := e158 x.disk h.disk
  unfold dsk dskO at e1
  have t1 : (x.disk.used.map bv).take x.disk.used.length = x.disk.used.map bv := List.take_of_length_le (by simp)
  have t2 : (x.disk.taken.map bv).take x.disk.taken.length = x.disk.taken.map bv := List.take_of_length_le (by simp)
  have t3 : (x.disk.inos.map inoO).take x.disk.inos.length = x.disk.inos.map inoO := List.take_of_length_le (by simp)
  have t4 : (x.disk.blks.map blkO).take x.disk.blks.length = x.disk.blks.map blkO := List.take_of_length_le (by simp)
  have t5 : (x.dirty.map bv).take x.dirty.length = x.dirty.map bv := List.take_of_length_le (by simp)
  have t6 : (x.deps.map dpO).take x.deps.length = x.deps.map dpO := List.take_of_length_le (by simp)
  have hd := h.dirty
  have hap : x.dirty.length * 1 ≤ 140737488355328 := by omega
  have hap' : x.dirty.length ≤ 140737488355328 := by omega
  obtain ⟨⟨y, e, m⟩, q1, qx, q2, q3, qm⟩ := in183 x h
  simp only at qx q2 q3 qm; subst qx; subst qm
  unfold mmBox mmNil mmCp at q1
  cases hb : x.dirty with
  | nil =>
    rw [hb] at q1
    simp only [List.map_nil] at q1
    simp only [mm, F183, h183_3, mmBox, mmNil, mmCp, hb, go_sem, seval, bnd_ite, e1, q1, q2, q3, t1, t2, t3, t4, t6, mmO, List.map_nil]
    first | done | rfl
  | cons q qs =>
    rw [hb] at q1 hap hap'
    simp only [List.map_cons, bv, List.length_cons] at q1 hap hap'
    have tq : (qs.map (fun z => AV.bool z)).take qs.length = qs.map (fun z => AV.bool z) := List.take_of_length_le (by simp)
    simp only [mm, F183, h183_3, mmBox, mmNil, mmCp, hb, bv, go_sem, seval, bnd_ite, e1, hap, hap', q1, q2, q3, tq, t1, t2, t3, t4, t6, mmO, List.map_cons, List.length_cons]
    first | done | rfl
end Go.Proofs.Ytaaajjinpppgeaa
/- The code of some functions, as the evaluator reads it (printed by a program of ours), checked against the program. Own work; no condition. -/
set_option linter.unusedVariables false
set_option linter.unusedSimpArgs false
set_option linter.unusedSectionVars false
namespace Go.Proofs.Ytaaajjinpppgeaa
open Go Go.Abs
set_option maxRecDepth 100000
def H146_2 : List Vw := [.tidy [0, 1, 5] [(0, none), (1, none), (5, none)]]
theorem h146_2 (b : Nat) (s : St) : vwL b H146_2 s = vwL b [.tidy [0, 1, 5] [(0, none), (1, none), (5, none)]] s := rfl
def L146_2 : EC := (.seq (.seq (.region [(.op .mv [(.tmp 5)] (some 6) true), (.op .mv [(.tmp 0)] (some 7) true), (.op .len [(.tmp 7)] (some 8) true), (.op (.bin .lss) [(.tmp 6), (.tmp 8)] (some 9) true)] false) (.cond (.tmp 9) .skip (.exit 0))) (.seq (.block 1 (.seq (.region [(.op .mv [(.tmp 0)] (some 12) true), (.op .mv [(.tmp 5)] (some 13) true), (.op .mv [(.tmp 1)] (some 14) true), (.op (.iaddr 11) [(.tmp 12), (.tmp 13)] (some 15) true), (.op (.faddr 0) [(.tmp 15)] (some 16) true), (.op .store1 [(.tmp 16), (.tmp 14)] none true)] false) (.seq (.region [(.op .mv [(.tmp 1)] (some 17) true), (.op (.bin .add) [(.tmp 17), (.const (.int .i64 1))] (some 18) true), (.op .mv [(.tmp 18)] (some 1) true)] false) (.seq (.region [(.op .mv [(.tmp 0)] (some 19) true), (.op .mv [(.tmp 5)] (some 20) true), (.op .mv [(.tmp 1)] (some 21) true), (.op (.iaddr 11) [(.tmp 19), (.tmp 20)] (some 22) true), (.op (.faddr 1) [(.tmp 22)] (some 23) true), (.op .store1 [(.tmp 23), (.tmp 21)] none true)] false) (.seq (.region [(.op .mv [(.tmp 1)] (some 24) true), (.op (.bin .add) [(.tmp 24), (.const (.int .i64 1))] (some 25) true), (.op .mv [(.tmp 25)] (some 1) true)] false) (.seq (.region [(.op .mv [(.tmp 0)] (some 26) true), (.op .mv [(.tmp 5)] (some 27) true), (.op .mv [(.tmp 1)] (some 28) true), (.op (.iaddr 11) [(.tmp 26), (.tmp 27)] (some 29) true), (.op (.faddr 2) [(.tmp 29)] (some 30) true), (.op .store1 [(.tmp 30), (.tmp 28)] none true)] false) (.seq (.region [(.op .mv [(.tmp 1)] (some 31) true), (.op (.bin .add) [(.tmp 31), (.const (.int .i64 1))] (some 32) true), (.op .mv [(.tmp 32)] (some 1) true)] false) (.seq (.region [(.op .mv [(.tmp 0)] (some 33) true), (.op .mv [(.tmp 5)] (some 34) true), (.op .mv [(.tmp 1)] (some 35) true), (.op (.iaddr 11) [(.tmp 33), (.tmp 34)] (some 36) true), (.op (.faddr 3) [(.tmp 36)] (some 37) true), (.op .store1 [(.tmp 37), (.tmp 35)] none true)] false) (.seq (.region [(.op .mv [(.tmp 1)] (some 38) true), (.op (.bin .add) [(.tmp 38), (.const (.int .i64 1))] (some 39) true), (.op .mv [(.tmp 39)] (some 1) true)] false) (.seq (.region [(.op .mv [(.tmp 0)] (some 40) true), (.op .mv [(.tmp 5)] (some 41) true), (.op .mv [(.tmp 1)] (some 42) true), (.op (.iaddr 11) [(.tmp 40), (.tmp 41)] (some 43) true), (.op (.faddr 4) [(.tmp 43)] (some 44) true), (.op .store1 [(.tmp 44), (.tmp 42)] none true)] false) (.seq (.region [(.op .mv [(.tmp 1)] (some 45) true), (.op (.bin .add) [(.tmp 45), (.const (.int .i64 1))] (some 46) true), (.op .mv [(.tmp 46)] (some 1) true)] false) (.seq (.region [(.op .mv [(.tmp 0)] (some 47) true), (.op .mv [(.tmp 5)] (some 48) true), (.op .mv [(.tmp 1)] (some 49) true), (.op (.iaddr 11) [(.tmp 47), (.tmp 48)] (some 50) true), (.op (.faddr 5) [(.tmp 50)] (some 51) true), (.op .store1 [(.tmp 51), (.tmp 49)] none true)] false) (.seq (.region [(.op .mv [(.tmp 1)] (some 52) true), (.op (.bin .add) [(.tmp 52), (.const (.int .i64 1))] (some 53) true), (.op .mv [(.tmp 53)] (some 1) true)] false) (.seq (.region [(.op .mv [(.tmp 0)] (some 54) true), (.op .mv [(.tmp 5)] (some 55) true), (.op .mv [(.tmp 1)] (some 56) true), (.pc (.const (.fn 207 [])) [(.tmp 56)] (some 57) true), (.op (.iaddr 11) [(.tmp 54), (.tmp 55)] (some 58) true), (.op (.faddr 6) [(.tmp 58)] (some 59) true), (.op .store1 [(.tmp 59), (.tmp 57)] none true)] false) (.seq (.region [(.op .mv [(.tmp 1)] (some 60) true), (.op (.bin .add) [(.tmp 60), (.const (.int .i64 1))] (some 61) true), (.op .mv [(.tmp 61)] (some 1) true)] false) (.seq (.region [(.op .mv [(.tmp 0)] (some 62) true), (.op .mv [(.tmp 5)] (some 63) true), (.op .mv [(.tmp 1)] (some 64) true), (.op (.bin .rem) [(.tmp 64), (.const (.int .i64 3))] (some 65) true), (.op (.bin .eql) [(.tmp 65), (.const (.int .i64 0))] (some 66) true), (.op (.iaddr 11) [(.tmp 62), (.tmp 63)] (some 67) true), (.op (.faddr 7) [(.tmp 67)] (some 68) true), (.op .store1 [(.tmp 68), (.tmp 66)] none true)] false) (.seq (.region [(.op .mv [(.tmp 1)] (some 69) true), (.op (.bin .add) [(.tmp 69), (.const (.int .i64 1))] (some 70) true), (.op .mv [(.tmp 70)] (some 1) true)] false) (.seq (.region [(.op .mv [(.tmp 0)] (some 71) true), (.op .mv [(.tmp 5)] (some 72) true), (.op .mv [(.tmp 1)] (some 73) true), (.op (.bin .rem) [(.tmp 73), (.const (.int .i64 3))] (some 74) true), (.op (.bin .eql) [(.tmp 74), (.const (.int .i64 0))] (some 75) true), (.op (.iaddr 11) [(.tmp 71), (.tmp 72)] (some 76) true), (.op (.faddr 8) [(.tmp 76)] (some 77) true), (.op .store1 [(.tmp 77), (.tmp 75)] none true)] false) (.seq (.region [(.op .mv [(.tmp 1)] (some 78) true), (.op (.bin .add) [(.tmp 78), (.const (.int .i64 1))] (some 79) true), (.op .mv [(.tmp 79)] (some 1) true)] false) (.seq (.region [(.op .mv [(.tmp 0)] (some 80) true), (.op .mv [(.tmp 5)] (some 81) true), (.op .mv [(.tmp 1)] (some 82) true), (.op (.iaddr 11) [(.tmp 80), (.tmp 81)] (some 83) true), (.op (.faddr 9) [(.tmp 83)] (some 84) true), (.op .store1 [(.tmp 84), (.tmp 82)] none true)] false) (.seq (.region [(.op .mv [(.tmp 1)] (some 85) true), (.op (.bin .add) [(.tmp 85), (.const (.int .i64 1))] (some 86) true), (.op .mv [(.tmp 86)] (some 1) true)] false) (.view [.opn 0 none (some (5, 0)) 10 1] (.region [(.op .mv [(.tmp 0)] (some 87) true), (.op .mv [(.tmp 5)] (some 88) true), (.op (.iaddr 11) [(.tmp 87), (.tmp 88)] (some 89) true), (.op (.faddr 10) [(.tmp 89)] (some 90) true), (.op .load1 [(.tmp 90)] (some 91) true), (.op .mv [(.tmp 1)] (some 92) true), (.sc (.const (.fn 100 [])) [(.tmp 91), (.tmp 92)] (some 93) true), (.op .mv [(.tmp 93)] (some 1) true)] false))))))))))))))))))))))) (.region [(.op .mv [(.tmp 5)] (some 10) true), (.op (.bin .add) [(.tmp 10), (.const (.int .i64 1))] (some 11) true), (.op .mv [(.tmp 11)] (some 5) true)] false)))
-- laws.markDepS
def F146 : EF := ⟨(.seq (.region [(.op .mv [(.const (.int .i64 0))] (some 4) true)] false) (.seq (.seq (.region [(.op .mv [(.const (.int .i64 0))] (some 5) true)] false) (.block 0 (.loop H146_2 L146_2))) (.seq (.region [(.op .mv [(.tmp 1)] (some 94) true), (.op .mv [(.tmp 94)] (some 4) true)] false) .ret))), [(.tmp 4)], 95, .one, none⟩
theorem t146 : T 146 = some F146 := tab Try.func146 (by kernel_rfl) rfl
def H164_2 : List Vw := [.tidy [0, 1, 5] [(0, none), (1, none), (5, none)]]
theorem h164_2 (b : Nat) (s : St) : vwL b H164_2 s = vwL b [.tidy [0, 1, 5] [(0, none), (1, none), (5, none)]] s := rfl
def L164_2 : EC := (.seq (.seq (.region [(.op .mv [(.tmp 5)] (some 6) true), (.op .mv [(.tmp 0)] (some 7) true), (.op .len [(.tmp 7)] (some 8) true), (.op (.bin .lss) [(.tmp 6), (.tmp 8)] (some 9) true)] false) (.cond (.tmp 9) .skip (.exit 0))) (.seq (.block 1 (.seq (.seq (.region [(.op .mv [(.tmp 0)] (some 12) true), (.op .mv [(.tmp 5)] (some 13) true), (.op (.iaddr 11) [(.tmp 12), (.tmp 13)] (some 14) true), (.op (.faddr 0) [(.tmp 14)] (some 15) true), (.op .load1 [(.tmp 15)] (some 16) true), (.op .mv [(.tmp 1)] (some 17) true), (.op (.bin .neq) [(.tmp 16), (.tmp 17)] (some 18) true)] false) (.cond (.tmp 18) (.seq (.region [(.op .mv [(.const (.int .i64 (-1)))] (some 4) true)] false) .ret) .skip)) (.seq (.region [(.op .mv [(.tmp 1)] (some 19) true), (.op (.bin .add) [(.tmp 19), (.const (.int .i64 1))] (some 20) true), (.op .mv [(.tmp 20)] (some 1) true)] false) (.seq (.seq (.region [(.op .mv [(.tmp 0)] (some 21) true), (.op .mv [(.tmp 5)] (some 22) true), (.op (.iaddr 11) [(.tmp 21), (.tmp 22)] (some 23) true), (.op (.faddr 1) [(.tmp 23)] (some 24) true), (.op .load1 [(.tmp 24)] (some 25) true), (.op .mv [(.tmp 1)] (some 26) true), (.op (.bin .neq) [(.tmp 25), (.tmp 26)] (some 27) true)] false) (.cond (.tmp 27) (.seq (.region [(.op .mv [(.const (.int .i64 (-1)))] (some 4) true)] false) .ret) .skip)) (.seq (.region [(.op .mv [(.tmp 1)] (some 28) true), (.op (.bin .add) [(.tmp 28), (.const (.int .i64 1))] (some 29) true), (.op .mv [(.tmp 29)] (some 1) true)] false) (.seq (.seq (.region [(.op .mv [(.tmp 0)] (some 30) true), (.op .mv [(.tmp 5)] (some 31) true), (.op (.iaddr 11) [(.tmp 30), (.tmp 31)] (some 32) true), (.op (.faddr 2) [(.tmp 32)] (some 33) true), (.op .load1 [(.tmp 33)] (some 34) true), (.op .mv [(.tmp 1)] (some 35) true), (.op (.bin .neq) [(.tmp 34), (.tmp 35)] (some 36) true)] false) (.cond (.tmp 36) (.seq (.region [(.op .mv [(.const (.int .i64 (-1)))] (some 4) true)] false) .ret) .skip)) (.seq (.region [(.op .mv [(.tmp 1)] (some 37) true), (.op (.bin .add) [(.tmp 37), (.const (.int .i64 1))] (some 38) true), (.op .mv [(.tmp 38)] (some 1) true)] false) (.seq (.seq (.region [(.op .mv [(.tmp 0)] (some 39) true), (.op .mv [(.tmp 5)] (some 40) true), (.op (.iaddr 11) [(.tmp 39), (.tmp 40)] (some 41) true), (.op (.faddr 3) [(.tmp 41)] (some 42) true), (.op .load1 [(.tmp 42)] (some 43) true), (.op .mv [(.tmp 1)] (some 44) true), (.op (.bin .neq) [(.tmp 43), (.tmp 44)] (some 45) true)] false) (.cond (.tmp 45) (.seq (.region [(.op .mv [(.const (.int .i64 (-1)))] (some 4) true)] false) .ret) .skip)) (.seq (.region [(.op .mv [(.tmp 1)] (some 46) true), (.op (.bin .add) [(.tmp 46), (.const (.int .i64 1))] (some 47) true), (.op .mv [(.tmp 47)] (some 1) true)] false) (.seq (.seq (.region [(.op .mv [(.tmp 0)] (some 48) true), (.op .mv [(.tmp 5)] (some 49) true), (.op (.iaddr 11) [(.tmp 48), (.tmp 49)] (some 50) true), (.op (.faddr 4) [(.tmp 50)] (some 51) true), (.op .load1 [(.tmp 51)] (some 52) true), (.op .mv [(.tmp 1)] (some 53) true), (.op (.bin .neq) [(.tmp 52), (.tmp 53)] (some 54) true)] false) (.cond (.tmp 54) (.seq (.region [(.op .mv [(.const (.int .i64 (-1)))] (some 4) true)] false) .ret) .skip)) (.seq (.region [(.op .mv [(.tmp 1)] (some 55) true), (.op (.bin .add) [(.tmp 55), (.const (.int .i64 1))] (some 56) true), (.op .mv [(.tmp 56)] (some 1) true)] false) (.seq (.seq (.region [(.op .mv [(.tmp 0)] (some 57) true), (.op .mv [(.tmp 5)] (some 58) true), (.op (.iaddr 11) [(.tmp 57), (.tmp 58)] (some 59) true), (.op (.faddr 5) [(.tmp 59)] (some 60) true), (.op .load1 [(.tmp 60)] (some 61) true), (.op .mv [(.tmp 1)] (some 62) true), (.op (.bin .neq) [(.tmp 61), (.tmp 62)] (some 63) true)] false) (.cond (.tmp 63) (.seq (.region [(.op .mv [(.const (.int .i64 (-1)))] (some 4) true)] false) .ret) .skip)) (.seq (.region [(.op .mv [(.tmp 1)] (some 64) true), (.op (.bin .add) [(.tmp 64), (.const (.int .i64 1))] (some 65) true), (.op .mv [(.tmp 65)] (some 1) true)] false) (.seq (.seq (.region [(.op .mv [(.tmp 0)] (some 66) false), (.op .mv [(.tmp 5)] (some 67) false), (.op (.iaddr 11) [(.tmp 66), (.tmp 67)] (some 68) false), (.op (.faddr 6) [(.tmp 68)] (some 69) false), (.op .load1 [(.tmp 69)] (some 70) false), (.op .mv [(.tmp 1)] (some 71) false), (.pc (.const (.fn 207 [])) [(.tmp 71)] (some 72) false), (.op (.bin .neq) [(.tmp 70), (.tmp 72)] (some 73) true)] true) (.cond (.tmp 73) (.seq (.region [(.op .mv [(.const (.int .i64 (-1)))] (some 4) true)] false) .ret) .skip)) (.seq (.region [(.op .mv [(.tmp 1)] (some 74) true), (.op (.bin .add) [(.tmp 74), (.const (.int .i64 1))] (some 75) true), (.op .mv [(.tmp 75)] (some 1) true)] false) (.seq (.seq (.region [(.op .mv [(.tmp 0)] (some 76) true), (.op .mv [(.tmp 5)] (some 77) true), (.op (.iaddr 11) [(.tmp 76), (.tmp 77)] (some 78) true), (.op (.faddr 7) [(.tmp 78)] (some 79) true), (.op .load1 [(.tmp 79)] (some 80) true), (.op .mv [(.tmp 1)] (some 81) true), (.op (.bin .rem) [(.tmp 81), (.const (.int .i64 3))] (some 82) true), (.op (.bin .eql) [(.tmp 82), (.const (.int .i64 0))] (some 83) true), (.op (.binB true) [(.tmp 80), (.tmp 83)] (some 84) true)] false) (.cond (.tmp 84) (.seq (.region [(.op .mv [(.const (.int .i64 (-1)))] (some 4) true)] false) .ret) .skip)) (.seq (.region [(.op .mv [(.tmp 1)] (some 85) true), (.op (.bin .add) [(.tmp 85), (.const (.int .i64 1))] (some 86) true), (.op .mv [(.tmp 86)] (some 1) true)] false) (.seq (.seq (.region [(.op .mv [(.tmp 0)] (some 87) true), (.op .mv [(.tmp 5)] (some 88) true), (.op (.iaddr 11) [(.tmp 87), (.tmp 88)] (some 89) true), (.op (.faddr 8) [(.tmp 89)] (some 90) true), (.op .load1 [(.tmp 90)] (some 91) true), (.op .mv [(.tmp 1)] (some 92) true), (.op (.bin .rem) [(.tmp 92), (.const (.int .i64 3))] (some 93) true), (.op (.bin .eql) [(.tmp 93), (.const (.int .i64 0))] (some 94) true), (.op (.binB true) [(.tmp 91), (.tmp 94)] (some 95) true)] false) (.cond (.tmp 95) (.seq (.region [(.op .mv [(.const (.int .i64 (-1)))] (some 4) true)] false) .ret) .skip)) (.seq (.region [(.op .mv [(.tmp 1)] (some 96) true), (.op (.bin .add) [(.tmp 96), (.const (.int .i64 1))] (some 97) true), (.op .mv [(.tmp 97)] (some 1) true)] false) (.seq (.seq (.region [(.op .mv [(.tmp 0)] (some 98) true), (.op .mv [(.tmp 5)] (some 99) true), (.op (.iaddr 11) [(.tmp 98), (.tmp 99)] (some 100) true), (.op (.faddr 9) [(.tmp 100)] (some 101) true), (.op .load1 [(.tmp 101)] (some 102) true), (.op .mv [(.tmp 1)] (some 103) true), (.op (.bin .neq) [(.tmp 102), (.tmp 103)] (some 104) true)] false) (.cond (.tmp 104) (.seq (.region [(.op .mv [(.const (.int .i64 (-1)))] (some 4) true)] false) .ret) .skip)) (.seq (.region [(.op .mv [(.tmp 1)] (some 105) true), (.op (.bin .add) [(.tmp 105), (.const (.int .i64 1))] (some 106) true), (.op .mv [(.tmp 106)] (some 1) true)] false) (.seq (.region [(.op .mv [(.tmp 0)] (some 107) true), (.op .mv [(.tmp 5)] (some 108) true), (.op (.iaddr 11) [(.tmp 107), (.tmp 108)] (some 109) true), (.op (.faddr 10) [(.tmp 109)] (some 110) true), (.op .load1 [(.tmp 110)] (some 111) true), (.op .mv [(.tmp 1)] (some 112) true), (.pc (.const (.fn 101 [])) [(.tmp 111), (.tmp 112)] (some 113) true), (.op .mv [(.tmp 113)] (some 1) true)] false) (.seq (.region [(.op .mv [(.tmp 1)] (some 114) true), (.op (.bin .lss) [(.tmp 114), (.const (.int .i64 0))] (some 115) true)] false) (.cond (.tmp 115) (.seq (.region [(.op .mv [(.const (.int .i64 (-1)))] (some 4) true)] false) .ret) .skip)))))))))))))))))))))))) (.region [(.op .mv [(.tmp 5)] (some 10) true), (.op (.bin .add) [(.tmp 10), (.const (.int .i64 1))] (some 11) true), (.op .mv [(.tmp 11)] (some 5) true)] false)))
-- laws.heldDepS
def F164 : EF := ⟨(.seq (.region [(.op .mv [(.const (.int .i64 0))] (some 4) true)] false) (.seq (.seq (.region [(.op .mv [(.const (.int .i64 0))] (some 5) true)] false) (.block 0 (.loop H164_2 L164_2))) (.seq (.region [(.op .mv [(.tmp 1)] (some 116) true), (.op .mv [(.tmp 116)] (some 4) true)] false) .ret))), [(.tmp 4)], 117, .one, none⟩
theorem t164 : T 164 = some F164 := tab Try.func164 (by kernel_rfl) rfl
-- laws.markMem
def F51 : EF := ⟨(.seq (.region [(.op (.box 7) [(.tmp 0)] (some 2) true), (.op .mv [(.const (.int .i64 0))] (some 4) true)] false) (.seq (.region [(.op (.faddr 0) [(.tmp 2)] (some 5) true), (.op (.loadN 4) [(.tmp 5)] (some 6) true), (.op .mv [(.tmp 1)] (some 7) true), (.sc (.const (.fn 63 [])) [(.tmp 6), (.tmp 7)] (some 8) true), (.op .mv [(.tmp 8)] (some 1) true)] false) (.seq (.region [(.op (.faddr 4) [(.tmp 2)] (some 9) true), (.op .load1 [(.tmp 9)] (some 10) true), (.op .mv [(.tmp 1)] (some 11) true), (.sc (.const (.fn 145 [])) [(.tmp 10), (.tmp 11)] (some 12) true), (.op .mv [(.tmp 12)] (some 1) true)] false) (.seq (.region [(.op (.faddr 5) [(.tmp 2)] (some 13) true), (.op .load1 [(.tmp 13)] (some 14) true), (.op .mv [(.tmp 1)] (some 15) true), (.sc (.const (.fn 146 [])) [(.tmp 14), (.tmp 15)] (some 16) true), (.op .mv [(.tmp 16)] (some 1) true)] false) (.seq (.region [(.op .mv [(.tmp 1)] (some 17) true), (.op .mv [(.tmp 17)] (some 4) true)] false) .ret))))), [(.tmp 4)], 18, .one, none⟩
theorem t51 : T 51 = some F51 := tab Try.func51 (by kernel_rfl) rfl
-- laws.heldMem
def F64 : EF := ⟨(.seq (.region [(.op (.box 7) [(.tmp 0)] (some 2) true), (.op .mv [(.const (.int .i64 0))] (some 4) true)] false) (.seq (.region [(.op (.faddr 0) [(.tmp 2)] (some 5) true), (.op (.loadN 4) [(.tmp 5)] (some 6) true), (.op .mv [(.tmp 1)] (some 7) true), (.pc (.const (.fn 67 [])) [(.tmp 6), (.tmp 7)] (some 8) true), (.op .mv [(.tmp 8)] (some 1) true)] false) (.seq (.seq (.region [(.op .mv [(.tmp 1)] (some 9) true), (.op (.bin .lss) [(.tmp 9), (.const (.int .i64 0))] (some 10) true)] false) (.cond (.tmp 10) (.seq (.region [(.op .mv [(.const (.int .i64 (-1)))] (some 4) true)] false) .ret) .skip)) (.seq (.region [(.op (.faddr 4) [(.tmp 2)] (some 11) true), (.op .load1 [(.tmp 11)] (some 12) true), (.op .mv [(.tmp 1)] (some 13) true), (.pc (.const (.fn 163 [])) [(.tmp 12), (.tmp 13)] (some 14) true), (.op .mv [(.tmp 14)] (some 1) true)] false) (.seq (.seq (.region [(.op .mv [(.tmp 1)] (some 15) true), (.op (.bin .lss) [(.tmp 15), (.const (.int .i64 0))] (some 16) true)] false) (.cond (.tmp 16) (.seq (.region [(.op .mv [(.const (.int .i64 (-1)))] (some 4) true)] false) .ret) .skip)) (.seq (.region [(.op (.faddr 5) [(.tmp 2)] (some 17) true), (.op .load1 [(.tmp 17)] (some 18) true), (.op .mv [(.tmp 1)] (some 19) true), (.pc (.const (.fn 164 [])) [(.tmp 18), (.tmp 19)] (some 20) true), (.op .mv [(.tmp 20)] (some 1) true)] false) (.seq (.seq (.region [(.op .mv [(.tmp 1)] (some 21) true), (.op (.bin .lss) [(.tmp 21), (.const (.int .i64 0))] (some 22) true)] false) (.cond (.tmp 22) (.seq (.region [(.op .mv [(.const (.int .i64 (-1)))] (some 4) true)] false) .ret) .skip)) (.seq (.region [(.op .mv [(.tmp 1)] (some 23) true), (.op .mv [(.tmp 23)] (some 4) true)] false) .ret)))))))), [(.tmp 4)], 24, .one, none⟩
theorem t64 : T 64 = some F64 := tab Try.func64 (by kernel_rfl) rfl
end Go.Proofs.Ytaaajjinpppgeaa
