/- Part 2 of the texts of a claim, joined by a program of ours (Fm, Ma, Ms, Fa, Fv, Fr, Fq, Ia, Ja, Lp, Pa, Ha, Fp). No condition. -/
import Derived.Test.YtaaajjinpppgeaaJ19a
set_option linter.unusedVariables false
set_option linter.unusedSimpArgs false
set_option linter.unusedSectionVars false
/- The code of some functions, as the evaluator reads it (printed by a program of ours), checked against the program. Own work; no condition. -/
set_option linter.unusedVariables false
set_option linter.unusedSimpArgs false
set_option linter.unusedSectionVars false
namespace Go.Proofs.Ytaaajjinpppgeaa
open Go Go.Abs
set_option maxRecDepth 100000
-- laws.FnExactSettled
def F6 : EF := ⟨(.seq (.region [(.op (.box 7) [(.tmp 0)] (some 1) true), (.op .mv [(.const (.bool false))] (some 2) true)] false) (.seq (.region [(.op .mv [(.const (.int .i64 1048576))] (some 3) true)] false) (.seq (.region [(.op (.loadN 7) [(.tmp 1)] (some 7) true), (.op .mv [(.tmp 3)] (some 8) true), (.pc (.const (.fn 43 [])) [(.tmp 7), (.tmp 8)] (some 9) true), (.op .mv [(.tmp 9)] (some 3) true)] false) (.seq (.seq (.region [(.op .mv [(.tmp 3)] (some 10) true), (.op (.bin .lss) [(.tmp 10), (.const (.int .i64 0))] (some 11) true)] false) (.cond (.tmp 11) (.seq (.region [(.op .mv [(.const (.bool true))] (some 2) true)] false) .ret) .skip)) (.seq (.region [(.op (.loadN 7) [(.tmp 1)] (some 12) true), (.pc (.const (.fn 45 [])) [(.tmp 12)] (some 13) true), (.pc (.const (.fn 44 [])) [(.tmp 13)] (some 14) true), (.op .mv [(.tmp 14)] (some 4) true)] false) (.seq (.region [(.op (.loadN 7) [(.tmp 1)] (some 15) true), (.pc (.const (.fn 45 [])) [(.tmp 15)] (some 16) true), (.op (.alloc (.agg [.nil, .nil, .nil, .nil, .nil, .nil, (.int .i64 0)])) [] (some 5) true), (.op (.storeN 7) [(.tmp 5), (.tmp 16)] none true)] false) (.seq (.region [(.op (.loadN 7) [(.tmp 5)] (some 17) true), (.pc (.const (.fn 46 [])) [(.tmp 17)] (some 18) true), (.op .mv [(.tmp 18)] (some 6) true)] false) (.seq (.seq (.region [(.op .mv [(.tmp 6)] (some 19) true), (.op .mv [(.tmp 4)] (some 20) true), (.op (.binB true) [(.tmp 19), (.tmp 20)] (some 21) true)] false) (.cond (.tmp 21) (.seq (.region [(.op .mv [(.const (.bool false))] (some 2) true)] false) .ret) .skip)) (.seq (.seq (.region [(.op (.loadN 7) [(.tmp 5)] (some 22) false), (.op (.loadN 7) [(.tmp 1)] (some 23) false), (.pc (.const (.fn 45 [])) [(.tmp 23)] (some 24) false), (.pc (.const (.fn 47 [])) [(.tmp 22), (.tmp 24)] (some 25) true), (.op .not [(.tmp 25)] (some 26) true)] true) (.cond (.tmp 26) (.seq (.region [(.op .mv [(.const (.bool false))] (some 2) true)] false) .ret) .skip)) (.seq (.region [(.op .mv [(.const (.bool true))] (some 2) true)] false) .ret)))))))))), [(.tmp 2)], 27, .one, none⟩
theorem t6 : T 6 = some F6 := tab Try.func6 (by kernel_rfl) rfl
-- laws.szMem
def F43 : EF := ⟨(.seq (.region [(.op (.box 7) [(.tmp 0)] (some 2) true), (.op .mv [(.const (.int .i64 0))] (some 4) true)] false) (.seq (.region [(.op (.faddr 0) [(.tmp 2)] (some 5) true), (.op (.loadN 4) [(.tmp 5)] (some 6) true), (.op .mv [(.tmp 1)] (some 7) true), (.pc (.const (.fn 38 [])) [(.tmp 6), (.tmp 7)] (some 8) true), (.op .mv [(.tmp 8)] (some 1) true)] false) (.seq (.seq (.region [(.op .mv [(.tmp 1)] (some 9) true), (.op (.bin .lss) [(.tmp 9), (.const (.int .i64 0))] (some 10) true)] false) (.cond (.tmp 10) (.seq (.region [(.op .mv [(.const (.int .i64 (-1)))] (some 4) true)] false) .ret) .skip)) (.seq (.region [(.op (.faddr 4) [(.tmp 2)] (some 11) true), (.op .load1 [(.tmp 11)] (some 12) true), (.op .mv [(.tmp 1)] (some 13) true), (.pc (.const (.fn 134 [])) [(.tmp 12), (.tmp 13)] (some 14) true), (.op .mv [(.tmp 14)] (some 1) true)] false) (.seq (.seq (.region [(.op .mv [(.tmp 1)] (some 15) true), (.op (.bin .lss) [(.tmp 15), (.const (.int .i64 0))] (some 16) true)] false) (.cond (.tmp 16) (.seq (.region [(.op .mv [(.const (.int .i64 (-1)))] (some 4) true)] false) .ret) .skip)) (.seq (.region [(.op (.faddr 5) [(.tmp 2)] (some 17) true), (.op .load1 [(.tmp 17)] (some 18) true), (.op .mv [(.tmp 1)] (some 19) true), (.pc (.const (.fn 135 [])) [(.tmp 18), (.tmp 19)] (some 20) true), (.op .mv [(.tmp 20)] (some 1) true)] false) (.seq (.seq (.region [(.op .mv [(.tmp 1)] (some 21) true), (.op (.bin .lss) [(.tmp 21), (.const (.int .i64 0))] (some 22) true)] false) (.cond (.tmp 22) (.seq (.region [(.op .mv [(.const (.int .i64 (-1)))] (some 4) true)] false) .ret) .skip)) (.seq (.region [(.op .mv [(.tmp 1)] (some 23) true), (.op .mv [(.tmp 23)] (some 4) true)] false) .ret)))))))), [(.tmp 4)], 24, .one, none⟩
theorem t43 : T 43 = some F43 := tab Try.func43 (by kernel_rfl) rfl
-- spec.Settled
-- laws.toMem
def F45 : EF := ⟨(.seq (.region [(.op (.box 7) [(.tmp 0)] (some 1) true), (.op (.alloc (.agg [.nil, .nil, .nil, .nil, .nil, .nil, (.int .i64 0)])) [] (some 2) true)] false) (.seq (.region [(.op (.alloc (.agg [.nil, .nil, .nil, .nil, .nil, .nil, (.int .i64 0)])) [] (some 3) true)] false) (.seq (.region [(.op (.faddr 0) [(.tmp 1)] (some 4) true), (.op (.loadN 4) [(.tmp 4)] (some 5) true), (.pc (.const (.fn 40 [])) [(.tmp 5)] (some 6) true), (.op (.faddr 0) [(.tmp 3)] (some 7) true), (.op (.storeN 4) [(.tmp 7), (.tmp 6)] none true)] false) (.seq (.region [(.op (.faddr 4) [(.tmp 1)] (some 8) true), (.op .load1 [(.tmp 8)] (some 9) true), (.pc (.const (.fn 136 [])) [(.tmp 9)] (some 10) true), (.op (.faddr 4) [(.tmp 3)] (some 11) true), (.op .store1 [(.tmp 11), (.tmp 10)] none true)] false) (.seq (.region [(.op (.faddr 5) [(.tmp 1)] (some 12) true), (.op .load1 [(.tmp 12)] (some 13) true), (.pc (.const (.fn 137 [])) [(.tmp 13)] (some 14) true), (.op (.faddr 5) [(.tmp 3)] (some 15) true), (.op .store1 [(.tmp 15), (.tmp 14)] none true)] false) (.seq (.region [(.op (.faddr 6) [(.tmp 1)] (some 16) true), (.op .load1 [(.tmp 16)] (some 17) true), (.op (.faddr 6) [(.tmp 3)] (some 18) true), (.op .store1 [(.tmp 18), (.tmp 17)] none true)] false) (.seq (.region [(.op (.loadN 7) [(.tmp 3)] (some 19) true), (.op (.storeN 7) [(.tmp 2), (.tmp 19)] none true)] false) .ret))))))), [(.cell 2 (.loadN 7))], 20, .one, none⟩
theorem t45 : T 45 = some F45 := tab Try.func45 (by kernel_rfl) rfl
-- impl.Settled
def F46 : EF := ⟨(.seq (.region [(.op (.box 7) [(.tmp 0)] (some 1) true), (.op .mv [(.const (.bool false))] (some 2) true)] false) (.seq (.region [(.op (.faddr 4) [(.tmp 1)] (some 3) true), (.op .load1 [(.tmp 3)] (some 4) true), (.pc (.const (.fn 138 [])) [(.tmp 4), (.const (.bool true))] (some 5) true), (.op .not [(.tmp 5)] (some 6) true), (.op .mv [(.tmp 6)] (some 7) true), (.grp 7 true [(.op (.faddr 5) [(.tmp 1)] (some 8) true), (.op .load1 [(.tmp 8)] (some 9) true), (.op .len [(.tmp 9)] (some 10) true), (.op (.bin .eql) [(.tmp 10), (.const (.int .i64 0))] (some 11) true)] 11 12 true), (.op .mv [(.tmp 12)] (some 2) true)] false) .ret)), [(.tmp 2)], 13, .one, none⟩
theorem t46 : T 46 = some F46 := tab Try.func46 (by kernel_rfl) rfl
-- laws.eqMem
def F47 : EF := ⟨(.seq (.region [(.op (.box 7) [(.tmp 0)] (some 2) true), (.op (.box 7) [(.tmp 1)] (some 3) true), (.op .mv [(.const (.bool false))] (some 4) true)] false) (.seq (.seq (.region [(.op (.faddr 0) [(.tmp 2)] (some 5) true), (.op (.loadN 4) [(.tmp 5)] (some 6) true), (.op (.faddr 0) [(.tmp 3)] (some 7) true), (.op (.loadN 4) [(.tmp 7)] (some 8) true), (.pc (.const (.fn 42 [])) [(.tmp 6), (.tmp 8)] (some 9) true), (.op .not [(.tmp 9)] (some 10) true)] false) (.cond (.tmp 10) (.seq (.region [(.op .mv [(.const (.bool false))] (some 4) true)] false) .ret) .skip)) (.seq (.seq (.region [(.op (.faddr 4) [(.tmp 2)] (some 11) true), (.op .load1 [(.tmp 11)] (some 12) true), (.op (.faddr 4) [(.tmp 3)] (some 13) true), (.op .load1 [(.tmp 13)] (some 14) true), (.pc (.const (.fn 139 [])) [(.tmp 12), (.tmp 14)] (some 15) true), (.op .not [(.tmp 15)] (some 16) true)] false) (.cond (.tmp 16) (.seq (.region [(.op .mv [(.const (.bool false))] (some 4) true)] false) .ret) .skip)) (.seq (.seq (.region [(.op (.faddr 5) [(.tmp 2)] (some 17) true), (.op .load1 [(.tmp 17)] (some 18) true), (.op (.faddr 5) [(.tmp 3)] (some 19) true), (.op .load1 [(.tmp 19)] (some 20) true), (.pc (.const (.fn 140 [])) [(.tmp 18), (.tmp 20)] (some 21) true), (.op .not [(.tmp 21)] (some 22) true)] false) (.cond (.tmp 22) (.seq (.region [(.op .mv [(.const (.bool false))] (some 4) true)] false) .ret) .skip)) (.seq (.seq (.region [(.op (.faddr 6) [(.tmp 2)] (some 23) true), (.op .load1 [(.tmp 23)] (some 24) true), (.op (.faddr 6) [(.tmp 3)] (some 25) true), (.op .load1 [(.tmp 25)] (some 26) true), (.op (.bin .neq) [(.tmp 24), (.tmp 26)] (some 27) true)] false) (.cond (.tmp 27) (.seq (.region [(.op .mv [(.const (.bool false))] (some 4) true)] false) .ret) .skip)) (.seq (.region [(.op .mv [(.const (.bool true))] (some 4) true)] false) .ret)))))), [(.tmp 4)], 28, .one, none⟩
theorem t47 : T 47 = some F47 := tab Try.func47 (by kernel_rfl) rfl
-- laws.szDep
def F85 : EF := ⟨(.seq (.region [(.op (.box 11) [(.tmp 0)] (some 2) true), (.op .mv [(.const (.int .i64 0))] (some 4) true)] false) (.seq (.region [(.op .mv [(.tmp 1)] (some 5) true), (.op (.faddr 6) [(.tmp 2)] (some 6) true), (.op .load1 [(.tmp 6)] (some 7) true), (.op .lenStr [(.tmp 7)] (some 8) true), (.op (.bin .sub) [(.tmp 5), (.tmp 8)] (some 9) true), (.op .mv [(.tmp 9)] (some 1) true)] false) (.seq (.seq (.region [(.op .mv [(.tmp 1)] (some 10) true), (.op (.bin .lss) [(.tmp 10), (.const (.int .i64 0))] (some 11) true)] false) (.cond (.tmp 11) (.seq (.region [(.op .mv [(.const (.int .i64 (-1)))] (some 4) true)] false) .ret) .skip)) (.seq (.region [(.op (.faddr 10) [(.tmp 2)] (some 12) true), (.op .load1 [(.tmp 12)] (some 13) true), (.op .mv [(.tmp 1)] (some 14) true), (.pc (.const (.fn 182 [])) [(.tmp 13), (.tmp 14)] (some 15) true), (.op .mv [(.tmp 15)] (some 1) true)] false) (.seq (.seq (.region [(.op .mv [(.tmp 1)] (some 16) true), (.op (.bin .lss) [(.tmp 16), (.const (.int .i64 0))] (some 17) true)] false) (.cond (.tmp 17) (.seq (.region [(.op .mv [(.const (.int .i64 (-1)))] (some 4) true)] false) .ret) .skip)) (.seq (.region [(.op .mv [(.tmp 1)] (some 18) true), (.op .mv [(.tmp 18)] (some 4) true)] false) .ret)))))), [(.tmp 4)], 19, .one, none⟩
theorem t85 : T 85 = some F85 := tab Try.func85 (by kernel_rfl) rfl
-- laws.toDep
def F87 : EF := ⟨(.seq (.region [(.op (.box 11) [(.tmp 0)] (some 1) true), (.op (.alloc (.agg [(.int .i64 0), (.int .i64 0), (.int .i64 0), (.int .i64 0), (.int .i64 0), (.int .i64 0), (.str ⟨#[]⟩), (.bool false), (.bool false), (.int .i64 0), .nil])) [] (some 2) true)] false) (.seq (.region [(.op (.alloc (.agg [(.int .i64 0), (.int .i64 0), (.int .i64 0), (.int .i64 0), (.int .i64 0), (.int .i64 0), (.str ⟨#[]⟩), (.bool false), (.bool false), (.int .i64 0), .nil])) [] (some 3) true)] false) (.seq (.region [(.op (.faddr 0) [(.tmp 1)] (some 4) true), (.op .load1 [(.tmp 4)] (some 5) true), (.op (.faddr 0) [(.tmp 3)] (some 6) true), (.op .store1 [(.tmp 6), (.tmp 5)] none true)] false) (.seq (.region [(.op (.faddr 1) [(.tmp 1)] (some 7) true), (.op .load1 [(.tmp 7)] (some 8) true), (.op (.faddr 1) [(.tmp 3)] (some 9) true), (.op .store1 [(.tmp 9), (.tmp 8)] none true)] false) (.seq (.region [(.op (.faddr 2) [(.tmp 1)] (some 10) true), (.op .load1 [(.tmp 10)] (some 11) true), (.op (.faddr 2) [(.tmp 3)] (some 12) true), (.op .store1 [(.tmp 12), (.tmp 11)] none true)] false) (.seq (.region [(.op (.faddr 3) [(.tmp 1)] (some 13) true), (.op .load1 [(.tmp 13)] (some 14) true), (.op (.faddr 3) [(.tmp 3)] (some 15) true), (.op .store1 [(.tmp 15), (.tmp 14)] none true)] false) (.seq (.region [(.op (.faddr 4) [(.tmp 1)] (some 16) true), (.op .load1 [(.tmp 16)] (some 17) true), (.op (.faddr 4) [(.tmp 3)] (some 18) true), (.op .store1 [(.tmp 18), (.tmp 17)] none true)] false) (.seq (.region [(.op (.faddr 5) [(.tmp 1)] (some 19) true), (.op .load1 [(.tmp 19)] (some 20) true), (.op (.faddr 5) [(.tmp 3)] (some 21) true), (.op .store1 [(.tmp 21), (.tmp 20)] none true)] false) (.seq (.region [(.op (.faddr 6) [(.tmp 1)] (some 22) true), (.op .load1 [(.tmp 22)] (some 23) true), (.op (.faddr 6) [(.tmp 3)] (some 24) true), (.op .store1 [(.tmp 24), (.tmp 23)] none true)] false) (.seq (.region [(.op (.faddr 7) [(.tmp 1)] (some 25) true), (.op .load1 [(.tmp 25)] (some 26) true), (.op (.faddr 7) [(.tmp 3)] (some 27) true), (.op .store1 [(.tmp 27), (.tmp 26)] none true)] false) (.seq (.region [(.op (.faddr 8) [(.tmp 1)] (some 28) true), (.op .load1 [(.tmp 28)] (some 29) true), (.op (.faddr 8) [(.tmp 3)] (some 30) true), (.op .store1 [(.tmp 30), (.tmp 29)] none true)] false) (.seq (.region [(.op (.faddr 9) [(.tmp 1)] (some 31) true), (.op .load1 [(.tmp 31)] (some 32) true), (.op (.faddr 9) [(.tmp 3)] (some 33) true), (.op .store1 [(.tmp 33), (.tmp 32)] none true)] false) (.seq (.region [(.op (.faddr 10) [(.tmp 1)] (some 34) true), (.op .load1 [(.tmp 34)] (some 35) true), (.pc (.const (.fn 184 [])) [(.tmp 35)] (some 36) true), (.op (.faddr 10) [(.tmp 3)] (some 37) true), (.op .store1 [(.tmp 37), (.tmp 36)] none true)] false) (.seq (.region [(.op (.loadN 11) [(.tmp 3)] (some 38) true), (.op (.storeN 11) [(.tmp 2), (.tmp 38)] none true)] false) .ret)))))))))))))), [(.cell 2 (.loadN 11))], 39, .one, none⟩
theorem t87 : T 87 = some F87 := tab Try.func87 (by kernel_rfl) rfl
-- laws.eqDep
def F89 : EF := ⟨(.seq (.region [(.op (.box 11) [(.tmp 0)] (some 2) true), (.op (.box 11) [(.tmp 1)] (some 3) true), (.op .mv [(.const (.bool false))] (some 4) true)] false) (.seq (.seq (.region [(.op (.faddr 0) [(.tmp 2)] (some 5) true), (.op .load1 [(.tmp 5)] (some 6) true), (.op (.faddr 0) [(.tmp 3)] (some 7) true), (.op .load1 [(.tmp 7)] (some 8) true), (.op (.bin .neq) [(.tmp 6), (.tmp 8)] (some 9) true)] false) (.cond (.tmp 9) (.seq (.region [(.op .mv [(.const (.bool false))] (some 4) true)] false) .ret) .skip)) (.seq (.seq (.region [(.op (.faddr 1) [(.tmp 2)] (some 10) true), (.op .load1 [(.tmp 10)] (some 11) true), (.op (.faddr 1) [(.tmp 3)] (some 12) true), (.op .load1 [(.tmp 12)] (some 13) true), (.op (.bin .neq) [(.tmp 11), (.tmp 13)] (some 14) true)] false) (.cond (.tmp 14) (.seq (.region [(.op .mv [(.const (.bool false))] (some 4) true)] false) .ret) .skip)) (.seq (.seq (.region [(.op (.faddr 2) [(.tmp 2)] (some 15) true), (.op .load1 [(.tmp 15)] (some 16) true), (.op (.faddr 2) [(.tmp 3)] (some 17) true), (.op .load1 [(.tmp 17)] (some 18) true), (.op (.bin .neq) [(.tmp 16), (.tmp 18)] (some 19) true)] false) (.cond (.tmp 19) (.seq (.region [(.op .mv [(.const (.bool false))] (some 4) true)] false) .ret) .skip)) (.seq (.seq (.region [(.op (.faddr 3) [(.tmp 2)] (some 20) true), (.op .load1 [(.tmp 20)] (some 21) true), (.op (.faddr 3) [(.tmp 3)] (some 22) true), (.op .load1 [(.tmp 22)] (some 23) true), (.op (.bin .neq) [(.tmp 21), (.tmp 23)] (some 24) true)] false) (.cond (.tmp 24) (.seq (.region [(.op .mv [(.const (.bool false))] (some 4) true)] false) .ret) .skip)) (.seq (.seq (.region [(.op (.faddr 4) [(.tmp 2)] (some 25) true), (.op .load1 [(.tmp 25)] (some 26) true), (.op (.faddr 4) [(.tmp 3)] (some 27) true), (.op .load1 [(.tmp 27)] (some 28) true), (.op (.bin .neq) [(.tmp 26), (.tmp 28)] (some 29) true)] false) (.cond (.tmp 29) (.seq (.region [(.op .mv [(.const (.bool false))] (some 4) true)] false) .ret) .skip)) (.seq (.seq (.region [(.op (.faddr 5) [(.tmp 2)] (some 30) true), (.op .load1 [(.tmp 30)] (some 31) true), (.op (.faddr 5) [(.tmp 3)] (some 32) true), (.op .load1 [(.tmp 32)] (some 33) true), (.op (.bin .neq) [(.tmp 31), (.tmp 33)] (some 34) true)] false) (.cond (.tmp 34) (.seq (.region [(.op .mv [(.const (.bool false))] (some 4) true)] false) .ret) .skip)) (.seq (.seq (.region [(.op (.faddr 6) [(.tmp 2)] (some 35) true), (.op .load1 [(.tmp 35)] (some 36) true), (.op (.faddr 6) [(.tmp 3)] (some 37) true), (.op .load1 [(.tmp 37)] (some 38) true), (.op (.bin .neq) [(.tmp 36), (.tmp 38)] (some 39) true)] false) (.cond (.tmp 39) (.seq (.region [(.op .mv [(.const (.bool false))] (some 4) true)] false) .ret) .skip)) (.seq (.seq (.region [(.op (.faddr 7) [(.tmp 2)] (some 40) true), (.op .load1 [(.tmp 40)] (some 41) true), (.op (.faddr 7) [(.tmp 3)] (some 42) true), (.op .load1 [(.tmp 42)] (some 43) true), (.op (.binB true) [(.tmp 41), (.tmp 43)] (some 44) true)] false) (.cond (.tmp 44) (.seq (.region [(.op .mv [(.const (.bool false))] (some 4) true)] false) .ret) .skip)) (.seq (.seq (.region [(.op (.faddr 8) [(.tmp 2)] (some 45) true), (.op .load1 [(.tmp 45)] (some 46) true), (.op (.faddr 8) [(.tmp 3)] (some 47) true), (.op .load1 [(.tmp 47)] (some 48) true), (.op (.binB true) [(.tmp 46), (.tmp 48)] (some 49) true)] false) (.cond (.tmp 49) (.seq (.region [(.op .mv [(.const (.bool false))] (some 4) true)] false) .ret) .skip)) (.seq (.seq (.region [(.op (.faddr 9) [(.tmp 2)] (some 50) true), (.op .load1 [(.tmp 50)] (some 51) true), (.op (.faddr 9) [(.tmp 3)] (some 52) true), (.op .load1 [(.tmp 52)] (some 53) true), (.op (.bin .neq) [(.tmp 51), (.tmp 53)] (some 54) true)] false) (.cond (.tmp 54) (.seq (.region [(.op .mv [(.const (.bool false))] (some 4) true)] false) .ret) .skip)) (.seq (.seq (.region [(.op (.faddr 10) [(.tmp 2)] (some 55) true), (.op .load1 [(.tmp 55)] (some 56) true), (.op (.faddr 10) [(.tmp 3)] (some 57) true), (.op .load1 [(.tmp 57)] (some 58) true), (.pc (.const (.fn 99 [])) [(.tmp 56), (.tmp 58)] (some 59) true), (.op .not [(.tmp 59)] (some 60) true)] false) (.cond (.tmp 60) (.seq (.region [(.op .mv [(.const (.bool false))] (some 4) true)] false) .ret) .skip)) (.seq (.region [(.op .mv [(.const (.bool true))] (some 4) true)] false) .ret))))))))))))), [(.tmp 4)], 61, .one, none⟩
theorem t89 : T 89 = some F89 := tab Try.func89 (by kernel_rfl) rfl
-- slices.Contains[[]bool,bool]
-- slices.Index[[]bool,bool]
end Go.Proofs.Ytaaajjinpppgeaa

/- Memories: counting, copying, comparing. Own work; no condition. -/
set_option linter.unusedVariables false
set_option linter.unusedSimpArgs false
set_option linter.unusedSectionVars false
namespace Go.Proofs.Ytaaajjinpppgeaa
open Go Go.Abs
set_option maxRecDepth 100000
structure Dp where
  id : Int
  kind : Int
  ino : Int
  ptr : Int
  block : Int
  slot : Int
  name : ByteArray
  bits : Bool
  other : Bool
  after : Int
  blocks : List Int
  deriving DecidableEq
def dp (x : Dp) : AV := .agg [.int .i64 x.id, .int .i64 x.kind, .int .i64 x.ino, .int .i64 x.ptr, .int .i64 x.block, .int .i64 x.slot, .str x.name, .bool x.bits, .bool x.other, .int .i64 x.after, .ro 1 (x.blocks.map iv)]
def dpO (x : Dp) : AV := .agg [.int .i64 x.id, .int .i64 x.kind, .int .i64 x.ino, .int .i64 x.ptr, .int .i64 x.block, .int .i64 x.slot, .str x.name, .bool x.bits, .bool x.other, .int .i64 x.after, .own 1 (x.blocks.map iv)]
def Dp.ok (x : Dp) : Prop := x.name.size ≤ maxLen ∧ x.blocks.length ≤ maxLen
def Dp.sm (x : Dp) : Prop := x.blocks.length ≤ 1048576

theorem dp_cool (x : Dp) : coolX (dp x) = true := rfl
theorem dp_len (x : Dp) : (dp x).cells.length = 11 := rfl
theorem dp_mi (g : Bool → Nat → Nat → Nat → AV) (l : List Dp) : mapIdL g (l.map dp) = l.map dp := mi_map g dp l dp_cool
theorem dp_is (u : Bool → Nat → Nat → Nat → List Nat) (l : List Dp) : idsL u (l.map dp) = [] := is_map u dp l dp_cool
theorem dp_coR (l : List Dp) : coolR 11 (l.map dp) = true := coR_map 11 dp l dp_len dp_cool
theorem dp_ice (x : Dp) : ice (dp x) = dp x := rfl
theorem dp_ic (l : List Dp) : iceL (l.map dp) = l.map dp := by rw [ice_m]; exact List.map_congr_left fun x _ => dp_ice x
theorem dp_no (x : Dp) : (dp x).cells.all noOwnC = true := rfl
theorem dp_noL (l : List Dp) : (l.map dp).all (fun x => x.cells.all noOwnC) = true := no_map dp l dp_no
attribute [go_sem] dp_mi dp_is dp_coR dp_ic dp_ice dp_noL

theorem dpO_cool (x : Dp) : coolX (dpO x) = true := by simp only [dpO, go_sem, Bool.and_self]
theorem dpO_len (x : Dp) : (dpO x).cells.length = 11 := rfl
theorem dpO_mi (g : Bool → Nat → Nat → Nat → AV) (l : List Dp) : mapIdL g (l.map dpO) = l.map dpO := mi_map g dpO l dpO_cool
theorem dpO_is (u : Bool → Nat → Nat → Nat → List Nat) (l : List Dp) : idsL u (l.map dpO) = [] := is_map u dpO l dpO_cool
theorem dpO_coR (l : List Dp) : coolR 11 (l.map dpO) = true := coR_map 11 dpO l dpO_len dpO_cool
theorem dpO_ice (x : Dp) : ice (dpO x) = dp x := by simp only [dpO, dp, go_sem]
theorem dpO_ic (l : List Dp) : iceL (l.map dpO) = l.map dp := by rw [ice_m]; exact List.map_congr_left fun x _ => dpO_ice x
theorem dpO_rf (x : Dp) : (dpO x).roFree = true := by simp [dpO, AV.roFree, roFreeL, iv_rfL]
theorem dpO_rfL (l : List Dp) : roFreeL (l.map dpO) = true := rf_map dpO l dpO_rf
attribute [go_sem] dpO_mi dpO_is dpO_coR dpO_ic dpO_ice dpO_rfL
theorem dp_eq (a b : Dp) : a = b ↔ a.id = b.id ∧ a.kind = b.kind ∧ a.ino = b.ino ∧ a.ptr = b.ptr ∧ a.block = b.block ∧ a.slot = b.slot ∧ a.name = b.name ∧ a.bits = b.bits ∧ a.other = b.other ∧ a.after = b.after ∧ a.blocks = b.blocks := by cases a; cases b; simp
theorem e85 (x : Dp) (n : Int) (h0 : 0 ≤ n) (hn : n ≤ 1048576) (hl : x.ok) :
    ∃ r : Int, E T 85 [dp x, .int .i64 n] [] = some (.int .i64 r, []) ∧ -1 ≤ r ∧ r ≤ n ∧ (0 ≤ r → x.sm) := by
  rw [E_eq t85 (Nat.le_of_ble_eq_true rfl)]
  obtain ⟨hl1, hl2⟩ := hl
  unfold maxLen at hl1
  simp only [dp, F85, go_sem, seval, bnd_ite]
  rw [w_i64 (n - (x.name.size : Int)) (by omega)]
  by_cases c1 : n - (x.name.size : Int) < 0
  · rw [if_pos c1]; exact ⟨_, rfl, by omega, by omega, fun h => by omega⟩
  obtain ⟨r, h1, h2, h3, h4⟩ := e182 x.blocks (n - (x.name.size : Int)) (by omega) (by omega) hl2
  rw [if_neg c1]
  simp only [go_sem, seval, bnd_ite, h1]
  by_cases c2 : r < 0
  · rw [if_pos c2]; exact ⟨_, rfl, by omega, by omega, fun h => by omega⟩
  rw [if_neg c2]; exact ⟨_, rfl, by omega, by omega, fun h => h4 (by omega)⟩
theorem t135 : T 135 = some (Fsz 11 11 85) := tab Try.func135 (by kernel_rfl) rfl
theorem e135 (l : List Dp) (n : Int) (h0 : 0 ≤ n) (hn : n ≤ 1048576) (hl : l.length ≤ maxLen) (hok : ∀ x ∈ l, x.ok) :
    ∃ r : Int, E T 135 [.ro 11 (l.map dp), .int .i64 n] [] = some (.int .i64 r, []) ∧ -1 ≤ r ∧ r ≤ n ∧ (0 ≤ r → l.length ≤ 1048576 ∧ ∀ x ∈ l, x.sm) :=
  gsz (ok := Dp.ok) t135 (fun _ => rfl) (fun _ => Nat.le_refl _) (fun _ => rfl) (fun _ => rfl) (fun x r h h0 h1 => e85 x r h0 h1 h) l n h0 hn hl hok
theorem e87 (x : Dp) (h : x.sm) : E T 87 [dp x] [] = some (dpO x, []) := by
  rw [E_eq t87 (Nat.le_of_ble_eq_true rfl)]; simp only [dp, dpO, F87, go_sem, seval, e184 x.blocks h]
theorem t137 : T 137 = some (Fto 11 104 (.agg [.int .i64 0, .int .i64 0, .int .i64 0, .int .i64 0, .int .i64 0, .int .i64 0, .str ⟨#[]⟩, .bool false, .bool false, .int .i64 0, .nil]) 11 87) := tab Try.func137 (by kernel_rfl) rfl
theorem e137 (l : List Dp) (hl : l.length ≤ 1048576) (hs : ∀ x ∈ l, x.sm) : E T 137 [.ro 11 (l.map dp)] [] = some (.own 11 (l.map dpO), []) := by
  rw [E_eq t137 (Nat.le_of_ble_eq_true rfl)]
  simp only [Fto, hto, go_sem, seval, bnd_ite]
  rw [if_pos ⟨by omega, by omega, by omega⟩]
  have key := XL_fold (T := T) (b := 0) (hd := Hto) (x := Lto 11 104 (.agg [.int .i64 0, .int .i64 0, .int .i64 0, .int .i64 0, .int .i64 0, .int .i64 0, .str ⟨#[]⟩, .bool false, .bool false, .int .i64 0, .nil]) 11 87) l (fun (_ : Unit) _ => ()) (fun i _ => ⟨[(0, .ro 11 (l.map dp)), (3, .sl 0 0 l.length), (4, .int .i64 (i : Nat))], [some (11, fill dpO (.agg [.int .i64 0, .int .i64 0, .int .i64 0, .int .i64 0, .int .i64 0, .int .i64 0, .str ⟨#[]⟩, .bool false, .bool false, .int .i64 0, .nil]) l i)]⟩)
    (r := (.exit 0, ⟨[(11, .bool false), (10, .int .i64 l.length), (9, .ro 11 (l.map dp)), (8, .int .i64 l.length), (0, .ro 11 (l.map dp)), (3, .sl 0 0 l.length), (4, .int .i64 l.length)], [some (11, l.map dpO)]⟩)) ?step () ?last
  case step =>
    intro i _ p hp hi
    have hi1 : (i : Int) < (l.length : Int) := by omega
    have fs : (fill dpO (.agg [.int .i64 0, .int .i64 0, .int .i64 0, .int .i64 0, .int .i64 0, .int .i64 0, .str ⟨#[]⟩, .bool false, .bool false, .int .i64 0, .nil]) l i).set i (.agg [.int .i64 p.id, .int .i64 p.kind, .int .i64 p.ino, .int .i64 p.ptr, .int .i64 p.block, .int .i64 p.slot, .str p.name, .bool p.bits, .bool p.other, .int .i64 p.after, .own 1 (p.blocks.map iv)]) = _ := fill_set (f := dpO) (z := .agg [.int .i64 0, .int .i64 0, .int .i64 0, .int .i64 0, .int .i64 0, .int .i64 0, .str ⟨#[]⟩, .bool false, .bool false, .int .i64 0, .nil]) hp
    have hc := e87 p (hs p (List.mem_of_getElem? hp))
    unfold dp dpO at hc
    simp only [XG, Lto, hto, go_sem, seval, bnd_ite, hi1, gD_map hp, dp, hc, Int.natCast_nonneg, w_i64 ((i : Int) + 1) (by omega), fill_len (Nat.le_of_lt hi), fill_get hi, hi,
      fill_mi _ dpO_cool (z := .agg [.int .i64 0, .int .i64 0, .int .i64 0, .int .i64 0, .int .i64 0, .int .i64 0, .str ⟨#[]⟩, .bool false, .bool false, .int .i64 0, .nil]) rfl, fill_is _ dpO_cool (z := .agg [.int .i64 0, .int .i64 0, .int .i64 0, .int .i64 0, .int .i64 0, .int .i64 0, .str ⟨#[]⟩, .bool false, .bool false, .int .i64 0, .nil]) rfl, is_set]
    rw [fs]; rfl
  case last =>
    refine XL_out ?_ (by simp)
    simp only [XG, Lto, hto, go_sem, seval, bnd_ite, Int.lt_irrefl, decide_false, fill_all]
  have hir : ∀ u n, idsL u (List.replicate n (.agg [.int .i64 0, .int .i64 0, .int .i64 0, .int .i64 0, .int .i64 0, .int .i64 0, .str ⟨#[]⟩, .bool false, .bool false, .int .i64 0, .nil] : AV)) = [] := fun u n => is_rep u n _ rfl
  have e0 : ((0 : Nat) : Int) = 0 := rfl
  rw [fill_0, e0] at key
  simp only [key, hir]
  simp only [go_sem, seval, tk_map, Nat.le_refl]
theorem e89 (x y : Dp) (h : x.ok) : E T 89 [dp x, dp y] [] = some (.bool (decide (x = y)), []) := by
  rw [E_eq t89 (Nat.le_of_ble_eq_true rfl)]
  simp only [dp, F89, go_sem, seval, bnd_ite, bdec, bne_dec, dp_eq, e99 _ y.blocks h.2]
  by_cases h0 : x.id = y.id
  case neg => simp [h0]
  simp only [h0, decide_true, Bool.not_true, Bool.false_eq_true, if_false, true_and]
  by_cases h1 : x.kind = y.kind
  case neg => simp [h1]
  simp only [h1, decide_true, Bool.not_true, Bool.false_eq_true, if_false, true_and]
  by_cases h2 : x.ino = y.ino
  case neg => simp [h2]
  simp only [h2, decide_true, Bool.not_true, Bool.false_eq_true, if_false, true_and]
  by_cases h3 : x.ptr = y.ptr
  case neg => simp [h3]
  simp only [h3, decide_true, Bool.not_true, Bool.false_eq_true, if_false, true_and]
  by_cases h4 : x.block = y.block
  case neg => simp [h4]
  simp only [h4, decide_true, Bool.not_true, Bool.false_eq_true, if_false, true_and]
  by_cases h5 : x.slot = y.slot
  case neg => simp [h5]
  simp only [h5, decide_true, Bool.not_true, Bool.false_eq_true, if_false, true_and]
  by_cases h6 : x.name = y.name
  case neg => simp [h6]
  simp only [h6, decide_true, Bool.not_true, Bool.false_eq_true, if_false, true_and]
  by_cases h7 : x.bits = y.bits
  case neg => simp [h7]
  simp only [h7, decide_true, Bool.not_true, Bool.false_eq_true, if_false, true_and]
  by_cases h8 : x.other = y.other
  case neg => simp [h8]
  simp only [h8, decide_true, Bool.not_true, Bool.false_eq_true, if_false, true_and]
  by_cases h9 : x.after = y.after
  case neg => simp [h9]
  simp only [h9, decide_true, Bool.not_true, Bool.false_eq_true, if_false, true_and]
  by_cases hb : x.blocks = y.blocks <;> simp [hb]
theorem t140 : T 140 = some (Feq 11 11 89) := tab Try.func140 (by kernel_rfl) rfl
theorem e140 (xs ys : List Dp) (ha : xs.length ≤ maxLen) (hok : ∀ x ∈ xs, x.ok) : E T 140 [.ro 11 (xs.map dp), .ro 11 (ys.map dp)] [] = some (.bool (decide (xs = ys)), []) :=
  geq' (ok := Dp.ok) t140 (fun _ => rfl) (fun _ => Nat.le_refl _) (fun _ => rfl) (fun _ => rfl) (fun x y h => e89 x y h) xs ys ha hok
structure Mm where
  disk : Dsk
  dirty : List Bool
  deps : List Dp
  next : Int
  deriving DecidableEq
def mm (x : Mm) : AV := .agg [.ro 1 (x.disk.used.map bv), .ro 1 (x.disk.taken.map bv), .ro 3 (x.disk.inos.map ino), .ro 3 (x.disk.blks.map blk), .ro 1 (x.dirty.map bv), .ro 11 (x.deps.map dp), .int .i64 x.next]
def mmO (x : Mm) : AV := .agg [.own 1 (x.disk.used.map bv), .own 1 (x.disk.taken.map bv), .own 3 (x.disk.inos.map inoO), .own 3 (x.disk.blks.map blkO), .own 1 (x.dirty.map bv), .own 11 (x.deps.map dpO), .int .i64 x.next]
structure Mm.ok (x : Mm) : Prop where
  disk : x.disk.ok
  dirty : x.dirty.length ≤ maxLen
  deps : x.deps.length ≤ maxLen
  dep : ∀ y ∈ x.deps, y.ok
structure Mm.sm (x : Mm) : Prop where
  disk : x.disk.sm
  dirty : x.dirty.length ≤ 1048576
  deps : x.deps.length ≤ 1048576
  dep : ∀ y ∈ x.deps, y.sm
theorem e43 (x : Mm) (n : Int) (h0 : 0 ≤ n) (hn : n ≤ 1048576) (hk : x.ok) :
    ∃ r : Int, E T 43 [mm x, .int .i64 n] [] = some (.int .i64 r, []) ∧ -1 ≤ r ∧ r ≤ n ∧ (0 ≤ r → x.sm) := by
  rw [E_eq t43 (Nat.le_of_ble_eq_true rfl)]
  obtain ⟨r, h1, h2, h3, h4⟩ := e38 x.disk n h0 hn hk.disk
  unfold dsk at h1
  simp only [mm, F43, go_sem, seval, bnd_ite, h1]
  by_cases c1 : r < 0
  · rw [if_pos c1]; exact ⟨_, rfl, by omega, by omega, fun h => by omega⟩
  obtain ⟨r2, g1, g2, g3, g4⟩ := e134 x.dirty r (by omega) (by omega) hk.dirty
  rw [if_neg c1]
  simp only [go_sem, seval, bnd_ite, g1]
  by_cases c2 : r2 < 0
  · rw [if_pos c2]; exact ⟨_, rfl, by omega, by omega, fun h => by omega⟩
  obtain ⟨r3, f1, f2, f3, f4⟩ := e135 x.deps r2 (by omega) (by omega) hk.deps hk.dep
  rw [if_neg c2]
  simp only [go_sem, seval, bnd_ite, f1]
  by_cases c3 : r3 < 0
  · rw [if_pos c3]; exact ⟨_, rfl, by omega, by omega, fun h => by omega⟩
  rw [if_neg c3]; exact ⟨_, rfl, by omega, by omega, fun h => ⟨h4 (by omega), g4 (by omega), (f4 (by omega)).1, (f4 (by omega)).2⟩⟩
theorem e45 (x : Mm) (h : x.sm) : E T 45 [mm x] [] = some (mmO x, []) := by
  have c40 := e40 x.disk h.disk
  unfold dsk dskO at c40
  rw [E_eq t45 (Nat.le_of_ble_eq_true rfl)]; simp only [mm, mmO, F45, go_sem, seval, c40, e136 _ h.dirty, e137 _ h.deps h.dep]
theorem mm_eq (a b : Mm) : a = b ↔ a.disk = b.disk ∧ a.dirty = b.dirty ∧ a.deps = b.deps ∧ a.next = b.next := by cases a; cases b; simp
theorem e47 (x y : Mm) (h : x.ok) : E T 47 [mm x, mm y] [] = some (.bool (decide (x = y)), []) := by
  have c42 := e42 x.disk y.disk h.disk
  unfold dsk at c42
  rw [E_eq t47 (Nat.le_of_ble_eq_true rfl)]
  simp only [mm, F47, go_sem, seval, bnd_ite, c42, e139 _ y.dirty h.dirty, e140 _ y.deps h.deps h.dep, mm_eq]
  by_cases h1 : x.disk = y.disk <;> by_cases h2 : x.dirty = y.dirty <;> by_cases h3 : x.deps = y.deps <;> by_cases h4 : x.next = y.next <;> simp [h1, h2, h3, h4]
end Go.Proofs.Ytaaajjinpppgeaa

/- The shapes of memories. Own work; no condition. -/
set_option linter.unusedVariables false
set_option linter.unusedSimpArgs false
set_option linter.unusedSectionVars false
namespace Go.Proofs.Ytaaajjinpppgeaa
open Go Go.Abs
set_option maxRecDepth 100000
def shP : Shp := .struct [.int .i64, .int .i64, .int .i64, .int .i64, .int .i64, .int .i64, .str, .bool, .bool, .int .i64, .slice 1 (.int .i64)]
def shM : Shp := .struct [shD, .slice 1 .bool, .slice 11 shP, .int .i64]
theorem isP (cs : List AV) (h : Is shP cs) : ∃ x : Dp, shP.elem cs = dp x ∧ x.ok := by
  cases h with | struct h =>
  cases h with | cons h1 h =>
  cases h with | cons h2 h =>
  cases h with | cons h3 h =>
  cases h with | cons h4 h =>
  cases h with | cons h5 h =>
  cases h with | cons h6 h =>
  cases h with | cons h7 h =>
  cases h with | cons h8 h =>
  cases h with | cons h9 h =>
  cases h with | cons h10 h =>
  cases h with | cons h11 h =>
  cases h
  cases h1; cases h2; cases h3; cases h4; cases h5; cases h6; cases h7; cases h8; cases h9; cases h10
  obtain ⟨xs, rfl, h4, _⟩ := isSl isIv h11
  exact ⟨⟨_, _, _, _, _, _, _, _, _, _, xs⟩, rfl, by assumption, h4⟩
theorem dsk_inj {cs : List AV} {x : Dsk} (h : AV.agg cs = dsk x) : cs = [.ro 1 (x.used.map bv), .ro 1 (x.taken.map bv), .ro 3 (x.inos.map ino), .ro 3 (x.blks.map blk)] := by
  unfold dsk at h; injection h
theorem isMc (cs : List AV) (h : Is shM cs) : ∃ x : Mm, .agg cs = mm x ∧ x.ok := by
  cases h with | struct h =>
  cases h with | cons h1 h =>
  cases h with | cons h2 h =>
  cases h with | cons h3 h =>
  cases h with | cons h4 h =>
  cases h
  obtain ⟨d, h5, h6⟩ := isDc _ h1
  have h5 := dsk_inj h5
  subst h5
  obtain ⟨a, rfl, a1, _⟩ := isSl isBv h2
  obtain ⟨b, rfl, b1, b2⟩ := isSl isP h3
  cases h4
  exact ⟨⟨d, a, b, _⟩, rfl, ⟨h6, a1, b1, b2⟩⟩
theorem isM {av : AV} (h : IsA shM av) : ∃ x : Mm, av = mm x ∧ x.ok := by
  obtain ⟨cs, h, rfl⟩ := h
  exact isMc cs h
end Go.Proofs.Ytaaajjinpppgeaa

/- The code of some functions, as the evaluator reads it (printed by a program of ours), checked against the program. Own work; no condition. -/
set_option linter.unusedVariables false
set_option linter.unusedSimpArgs false
set_option linter.unusedSectionVars false
namespace Go.Proofs.Ytaaajjinpppgeaa
open Go Go.Abs
set_option maxRecDepth 100000
-- laws.FnExactPutDep
def F19 : EF := ⟨(.seq (.region [(.op (.box 7) [(.tmp 0)] (some 2) true), (.op (.box 11) [(.tmp 1)] (some 3) true), (.op .mv [(.const (.bool false))] (some 4) true)] false) (.seq (.region [(.op .mv [(.const (.int .i64 1048576))] (some 5) true)] false) (.seq (.region [(.op (.loadN 7) [(.tmp 2)] (some 17) true), (.op .mv [(.tmp 5)] (some 18) true), (.pc (.const (.fn 43 [])) [(.tmp 17), (.tmp 18)] (some 19) true), (.op .mv [(.tmp 19)] (some 5) true)] false) (.seq (.seq (.region [(.op .mv [(.tmp 5)] (some 20) true), (.op (.bin .lss) [(.tmp 20), (.const (.int .i64 0))] (some 21) true)] false) (.cond (.tmp 21) (.seq (.region [(.op .mv [(.const (.bool true))] (some 4) true)] false) .ret) .skip)) (.seq (.region [(.op (.loadN 11) [(.tmp 3)] (some 22) true), (.op .mv [(.tmp 5)] (some 23) true), (.pc (.const (.fn 85 [])) [(.tmp 22), (.tmp 23)] (some 24) true), (.op .mv [(.tmp 24)] (some 5) true)] false) (.seq (.seq (.region [(.op .mv [(.tmp 5)] (some 25) true), (.op (.bin .lss) [(.tmp 25), (.const (.int .i64 0))] (some 26) true)] false) (.cond (.tmp 26) (.seq (.region [(.op .mv [(.const (.bool true))] (some 4) true)] false) .ret) .skip)) (.seq (.region [(.op (.loadN 7) [(.tmp 2)] (some 28) false), (.pc (.const (.fn 45 [])) [(.tmp 28)] (some 29) false), (.op (.loadN 11) [(.tmp 3)] (some 30) false), (.pc (.const (.fn 87 [])) [(.tmp 30)] (some 31) false), (.pc (.const (.fn 86 [])) [(.tmp 29), (.tmp 31)] (some 32) false), (.op .mv [(.tmp 32)] (some 27) false), (.op (.ext 0) [(.tmp 27)] (some 33) false), (.op (.ext 1) [(.tmp 27)] (some 34) false), (.op (.alloc (.agg [.nil, .nil, .nil, .nil, .nil, .nil, (.int .i64 0)])) [] (some 6) false), (.op (.storeN 7) [(.tmp 6), (.tmp 33)] none true), (.op .mv [(.tmp 34)] (some 7) true)] true) (.seq (.region [(.op (.loadN 7) [(.tmp 2)] (some 35) true), (.pc (.const (.fn 45 [])) [(.tmp 35)] (some 36) true), (.op (.alloc (.agg [.nil, .nil, .nil, .nil, .nil, .nil, (.int .i64 0)])) [] (some 8) true), (.op (.storeN 7) [(.tmp 8), (.tmp 36)] none true)] false) (.seq (.region [(.op (.loadN 11) [(.tmp 3)] (some 37) true), (.pc (.const (.fn 87 [])) [(.tmp 37)] (some 38) true), (.op (.alloc (.agg [(.int .i64 0), (.int .i64 0), (.int .i64 0), (.int .i64 0), (.int .i64 0), (.int .i64 0), (.str ⟨#[]⟩), (.bool false), (.bool false), (.int .i64 0), .nil])) [] (some 9) true), (.op (.storeN 11) [(.tmp 9), (.tmp 38)] none true)] false) (.seq (.region [(.op (.loadN 7) [(.tmp 8)] (some 40) true), (.op (.loadN 11) [(.tmp 9)] (some 41) true), (.pc (.const (.fn 88 [])) [(.tmp 40), (.tmp 41)] (some 42) true), (.op .mv [(.tmp 42)] (some 39) true), (.op (.ext 0) [(.tmp 39)] (some 43) true), (.op (.ext 1) [(.tmp 39)] (some 44) true), (.op (.alloc (.agg [.nil, .nil, .nil, .nil, .nil, .nil, (.int .i64 0)])) [] (some 10) true), (.op (.storeN 7) [(.tmp 10), (.tmp 43)] none true), (.op .mv [(.tmp 44)] (some 11) true)] false) (.seq (.seq (.region [(.op (.loadN 7) [(.tmp 10)] (some 45) true), (.op (.loadN 7) [(.tmp 6)] (some 46) true), (.pc (.const (.fn 47 [])) [(.tmp 45), (.tmp 46)] (some 47) true), (.op .not [(.tmp 47)] (some 48) true), (.op .mv [(.tmp 48)] (some 49) true), (.grp 49 false [(.op .mv [(.tmp 11)] (some 50) true), (.op .mv [(.tmp 7)] (some 51) true), (.op (.bin .neq) [(.tmp 50), (.tmp 51)] (some 52) true)] 52 53 true)] false) (.cond (.tmp 53) (.seq (.region [(.op .mv [(.const (.bool false))] (some 4) true)] false) .ret) .skip)) (.seq (.seq (.region [(.op (.loadN 7) [(.tmp 8)] (some 54) false), (.op (.loadN 7) [(.tmp 2)] (some 55) false), (.pc (.const (.fn 45 [])) [(.tmp 55)] (some 56) false), (.pc (.const (.fn 47 [])) [(.tmp 54), (.tmp 56)] (some 57) true), (.op .not [(.tmp 57)] (some 58) true)] true) (.cond (.tmp 58) (.seq (.region [(.op .mv [(.const (.bool false))] (some 4) true)] false) .ret) .skip)) (.seq (.seq (.region [(.op (.loadN 11) [(.tmp 9)] (some 59) false), (.op (.loadN 11) [(.tmp 3)] (some 60) false), (.pc (.const (.fn 87 [])) [(.tmp 60)] (some 61) false), (.pc (.const (.fn 89 [])) [(.tmp 59), (.tmp 61)] (some 62) true), (.op .not [(.tmp 62)] (some 63) true)] true) (.cond (.tmp 63) (.seq (.region [(.op .mv [(.const (.bool false))] (some 4) true)] false) .ret) .skip)) (.seq (.region [(.op .mv [(.const (.int .i64 1))] (some 12) true)] false) (.seq (.region [(.op (.loadN 7) [(.tmp 8)] (some 64) true), (.op .mv [(.tmp 12)] (some 65) true), (.sc (.const (.fn 51 [])) [(.tmp 64), (.tmp 65)] (some 66) true), (.op .mv [(.tmp 66)] (some 12) true)] false) (.seq (.region [(.op (.loadN 11) [(.tmp 9)] (some 67) true), (.op .mv [(.tmp 12)] (some 68) true), (.sc (.const (.fn 90 [])) [(.tmp 67), (.tmp 68)] (some 69) true), (.op .mv [(.tmp 69)] (some 12) true)] false) (.seq (.seq (.region [(.op .mv [(.tmp 12)] (some 70) true), (.op (.bin .lss) [(.tmp 70), (.const (.int .i64 0))] (some 71) true), (.op .mv [(.tmp 71)] (some 72) true), (.grp 72 false [(.op (.loadN 7) [(.tmp 10)] (some 73) true), (.op (.loadN 7) [(.tmp 6)] (some 74) true), (.pc (.const (.fn 47 [])) [(.tmp 73), (.tmp 74)] (some 75) true), (.op .not [(.tmp 75)] (some 76) true)] 76 77 true), (.op .mv [(.tmp 77)] (some 78) true), (.grp 78 false [(.op .mv [(.tmp 11)] (some 79) true), (.op .mv [(.tmp 7)] (some 80) true), (.op (.bin .neq) [(.tmp 79), (.tmp 80)] (some 81) true)] 81 82 true)] false) (.cond (.tmp 82) (.seq (.region [(.op .mv [(.const (.bool false))] (some 4) true)] false) .ret) .skip)) (.seq (.region [(.op .mv [(.const (.int .i64 1))] (some 13) true)] false) (.seq (.region [(.op (.loadN 7) [(.tmp 10)] (some 83) true), (.op .mv [(.tmp 13)] (some 84) true), (.sc (.const (.fn 51 [])) [(.tmp 83), (.tmp 84)] (some 85) true), (.op .mv [(.tmp 85)] (some 13) true)] false) (.seq (.region [(.op .mv [(.const (.int .i64 1))] (some 14) true)] false) (.seq (.region [(.op (.loadN 7) [(.tmp 10)] (some 86) true), (.op .mv [(.tmp 14)] (some 87) true), (.pc (.const (.fn 64 [])) [(.tmp 86), (.tmp 87)] (some 88) true), (.op .mv [(.tmp 88)] (some 14) true)] false) (.seq (.seq (.region [(.op .mv [(.tmp 14)] (some 89) true), (.op (.bin .lss) [(.tmp 89), (.const (.int .i64 0))] (some 90) true)] false) (.cond (.tmp 90) (.seq (.region [(.op .mv [(.const (.bool false))] (some 4) true)] false) .ret) .skip)) (.seq (.seq (.region [(.op .mv [(.tmp 14)] (some 91) true), (.op .mv [(.tmp 13)] (some 92) true), (.op (.bin .neq) [(.tmp 91), (.tmp 92)] (some 93) true)] false) (.cond (.tmp 93) (.seq (.region [(.op .mv [(.const (.bool false))] (some 4) true)] false) .ret) .skip)) (.seq (.region [(.op (.loadN 7) [(.tmp 2)] (some 95) false), (.pc (.const (.fn 45 [])) [(.tmp 95)] (some 96) false), (.op (.loadN 11) [(.tmp 3)] (some 97) false), (.pc (.const (.fn 87 [])) [(.tmp 97)] (some 98) false), (.pc (.const (.fn 88 [])) [(.tmp 96), (.tmp 98)] (some 99) false), (.op .mv [(.tmp 99)] (some 94) false), (.op (.ext 0) [(.tmp 94)] (some 100) false), (.op (.ext 1) [(.tmp 94)] (some 101) false), (.op (.alloc (.agg [.nil, .nil, .nil, .nil, .nil, .nil, (.int .i64 0)])) [] (some 15) false), (.op (.storeN 7) [(.tmp 15), (.tmp 100)] none true), (.op .mv [(.tmp 101)] (some 16) true)] true) (.seq (.seq (.region [(.op (.loadN 7) [(.tmp 15)] (some 102) true), (.op (.loadN 7) [(.tmp 6)] (some 103) true), (.pc (.const (.fn 47 [])) [(.tmp 102), (.tmp 103)] (some 104) true), (.op .not [(.tmp 104)] (some 105) true), (.op .mv [(.tmp 105)] (some 106) true), (.grp 106 false [(.op .mv [(.tmp 16)] (some 107) true), (.op .mv [(.tmp 7)] (some 108) true), (.op (.bin .neq) [(.tmp 107), (.tmp 108)] (some 109) true)] 109 110 true)] false) (.cond (.tmp 110) (.seq (.region [(.op .mv [(.const (.bool false))] (some 4) true)] false) .ret) .skip)) (.seq (.region [(.op .mv [(.const (.int .i64 1))] (some 14) true)] false) (.seq (.region [(.op (.loadN 7) [(.tmp 10)] (some 111) true), (.op .mv [(.tmp 14)] (some 112) true), (.pc (.const (.fn 64 [])) [(.tmp 111), (.tmp 112)] (some 113) true), (.op .mv [(.tmp 113)] (some 14) true)] false) (.seq (.seq (.region [(.op .mv [(.tmp 14)] (some 114) true), (.op (.bin .lss) [(.tmp 114), (.const (.int .i64 0))] (some 115) true)] false) (.cond (.tmp 115) (.seq (.region [(.op .mv [(.const (.bool false))] (some 4) true)] false) .ret) .skip)) (.seq (.seq (.region [(.op .mv [(.tmp 14)] (some 116) true), (.op .mv [(.tmp 13)] (some 117) true), (.op (.bin .neq) [(.tmp 116), (.tmp 117)] (some 118) true)] false) (.cond (.tmp 118) (.seq (.region [(.op .mv [(.const (.bool false))] (some 4) true)] false) .ret) .skip)) (.seq (.region [(.op .mv [(.const (.bool true))] (some 4) true)] false) .ret)))))))))))))))))))))))))))))), [(.tmp 4)], 119, .one, none⟩
theorem t19 : T 19 = some F19 := tab Try.func19 (by kernel_rfl) rfl
-- laws.FnExactTakeBlock
-- laws.FnExactTakeIno
-- spec.PutDep
def F86 : EF := ⟨(.seq (.region [(.op (.box 7) [(.tmp 0)] (some 2) true), (.op (.box 11) [(.tmp 1)] (some 3) true), (.op (.alloc (.agg [.nil, .nil, .nil, .nil, .nil, .nil, (.int .i64 0)])) [] (some 4) true), (.op .mv [(.const (.int .i64 0))] (some 5) true)] false) (.seq (.region [(.op (.loadN 7) [(.tmp 2)] (some 7) true), (.pc (.const (.fn 183 [])) [(.tmp 7)] (some 8) true), (.op (.alloc (.agg [.nil, .nil, .nil, .nil, .nil, .nil, (.int .i64 0)])) [] (some 6) true), (.op (.storeN 7) [(.tmp 6), (.tmp 8)] none true)] false) (.seq (.seq (.region [(.op (.faddr 5) [(.tmp 2)] (some 9) true), (.op .load1 [(.tmp 9)] (some 10) true), (.op .len [(.tmp 10)] (some 11) true), (.op (.bin .geq) [(.tmp 11), (.const (.int .i64 40))] (some 12) true), (.op .mv [(.tmp 12)] (some 13) true), (.grp 13 false [(.op (.faddr 6) [(.tmp 2)] (some 14) true), (.op .load1 [(.tmp 14)] (some 15) true), (.pc (.const (.fn 116 [])) [(.tmp 15), (.const (.int .i64 1)), (.const (.int .i64 99999))] (some 16) true), (.op .not [(.tmp 16)] (some 17) true)] 17 18 true)] false) (.cond (.tmp 18) (.seq (.view [.opn 6 none none 0 1, .opn 6 none none 1 1, .opn 6 none none 2 3, .opn 6 none none 3 3, .opn 6 none none 4 1, .opn 6 none none 5 11] (.region [(.op (.loadN 7) [(.tmp 6)] (some 19) true), (.op (.storeN 7) [(.tmp 4), (.tmp 19)] none true), (.op .mv [(.const (.int .i64 0))] (some 5) true)] false)) .ret) .skip)) (.seq (.region [(.op (.faddr 6) [(.tmp 2)] (some 20) true), (.op .load1 [(.tmp 20)] (some 21) true), (.op (.faddr 0) [(.tmp 3)] (some 22) true), (.op .store1 [(.tmp 22), (.tmp 21)] none true)] false) (.seq (.region [(.op (.bslice 1 0 (.int .i64 0) []) [] (some 23) true), (.op (.faddr 10) [(.tmp 3)] (some 24) true), (.op .load1 [(.tmp 24)] (some 25) true), (.op (.append 1 8) [(.tmp 23), (.tmp 25)] (some 26) true), (.op (.faddr 10) [(.tmp 3)] (some 27) true), (.op .store1 [(.tmp 27), (.tmp 26)] none true)] false) (.seq (.view [.opn 6 none none 5 11, .opn 3 none none 10 1] (.region [(.op (.faddr 5) [(.tmp 6)] (some 28) true), (.op .load1 [(.tmp 28)] (some 29) true), (.op (.loadN 11) [(.tmp 3)] (some 30) true), (.op (.bslice 11 1 (.agg [(.int .i64 0), (.int .i64 0), (.int .i64 0), (.int .i64 0), (.int .i64 0), (.int .i64 0), (.str ⟨#[]⟩), (.bool false), (.bool false), (.int .i64 0), .nil]) [0]) [(.tmp 30)] (some 31) true), (.op (.append 11 104) [(.tmp 29), (.tmp 31)] (some 32) true), (.op (.faddr 5) [(.tmp 6)] (some 33) true), (.op .store1 [(.tmp 33), (.tmp 32)] none true)] false)) (.seq (.region [(.op (.faddr 6) [(.tmp 2)] (some 34) true), (.op .load1 [(.tmp 34)] (some 35) true), (.op (.bin .add) [(.tmp 35), (.const (.int .i64 1))] (some 36) true), (.op (.faddr 6) [(.tmp 6)] (some 37) true), (.op .store1 [(.tmp 37), (.tmp 36)] none true)] false) (.seq (.view [.opn 6 none none 0 1, .opn 6 none none 1 1, .opn 6 none none 2 3, .opn 6 none none 3 3, .opn 6 none none 4 1, .opn 6 none none 5 11] (.regL [(.op (.loadN 7) [(.tmp 6)] (some 38) true), (.op (.faddr 0) [(.tmp 3)] (some 39) false), (.op .load1 [(.tmp 39)] (some 40) false), (.op (.storeN 7) [(.tmp 4), (.tmp 38)] none true), (.op .mv [(.tmp 40)] (some 5) true)] [3, 39] [4])) .ret)))))))), [(.cell 4 (.loadN 7)), (.tmp 5)], 41, .one, none⟩
theorem t86 : T 86 = some F86 := tab Try.func86 (by kernel_rfl) rfl
-- impl.PutDep
def F88 : EF := ⟨(.seq (.region [(.op (.box 7) [(.tmp 0)] (some 2) true), (.op (.box 11) [(.tmp 1)] (some 3) true), (.op (.alloc (.agg [.nil, .nil, .nil, .nil, .nil, .nil, (.int .i64 0)])) [] (some 4) true), (.op .mv [(.const (.int .i64 0))] (some 5) true)] false) (.seq (.region [(.op (.loadN 7) [(.tmp 2)] (some 8) true), (.pc (.const (.fn 185 [])) [(.tmp 8)] (some 9) true), (.op (.alloc (.agg [.nil, .nil, .nil, .nil, .nil, .nil, (.int .i64 0)])) [] (some 6) true), (.op (.storeN 7) [(.tmp 6), (.tmp 9)] none true)] false) (.seq (.view [.opn 6 none none 0 1, .opn 6 none none 1 1, .opn 6 none none 2 3, .opn 6 none none 3 3, .opn 6 none none 4 1, .opn 6 none none 5 11] (.region [(.op (.loadN 11) [(.tmp 3)] (some 10) true), (.sc (.const (.fn 186 [])) [(.tmp 6), (.tmp 10)] (some 11) true), (.op .mv [(.tmp 11)] (some 7) true)] false)) (.seq (.view [.opn 6 none none 0 1, .opn 6 none none 1 1, .opn 6 none none 2 3, .opn 6 none none 3 3, .opn 6 none none 4 1, .opn 6 none none 5 11] (.region [(.op (.loadN 7) [(.tmp 6)] (some 12) true), (.op .mv [(.tmp 7)] (some 13) true), (.op (.storeN 7) [(.tmp 4), (.tmp 12)] none true), (.op .mv [(.tmp 13)] (some 5) true)] false)) .ret)))), [(.cell 4 (.loadN 7)), (.tmp 5)], 14, .one, none⟩
theorem t88 : T 88 = some F88 := tab Try.func88 (by kernel_rfl) rfl
-- spec.TakeBlock
-- impl.TakeBlock
-- spec.TakeIno
-- impl.TakeIno
def H183_3 : List Vw := [.opn 3 none none 4 1, .opn 3 none none 5 11, .tidy [1, 2, 3, 4] [(1, none), (2, none), (3, none), (4, none), (3, some 5)]]
theorem h183_3 (b : Nat) (s : St) : vwL b H183_3 s = vwL b [.opn 3 none none 4 1, .opn 3 none none 5 11, .tidy [1, 2, 3, 4] [(1, none), (2, none), (3, none), (4, none), (3, some 5)]] s := rfl
def L183_3 : EC := (.seq (.seq (.region [(.op .mv [(.tmp 4)] (some 16) true), (.op (.faddr 5) [(.tmp 1)] (some 17) true), (.op .load1 [(.tmp 17)] (some 18) true), (.op .len [(.tmp 18)] (some 19) true), (.op (.bin .lss) [(.tmp 16), (.tmp 19)] (some 20) true)] false) (.cond (.tmp 20) .skip (.exit 0))) (.seq (.block 1 (.seq (.region [(.op (.faddr 5) [(.tmp 1)] (some 23) true), (.op .load1 [(.tmp 23)] (some 24) true), (.op .mv [(.tmp 4)] (some 25) true), (.op (.iaddr 11) [(.tmp 24), (.tmp 25)] (some 26) true), (.op (.loadN 11) [(.tmp 26)] (some 27) true), (.op (.alloc (.agg [(.int .i64 0), (.int .i64 0), (.int .i64 0), (.int .i64 0), (.int .i64 0), (.int .i64 0), (.str ⟨#[]⟩), (.bool false), (.bool false), (.int .i64 0), .nil])) [] (some 5) true), (.op (.storeN 11) [(.tmp 5), (.tmp 27)] none true)] false) (.seq (.region [(.op (.bslice 1 0 (.int .i64 0) []) [] (some 28) true), (.op (.faddr 10) [(.tmp 5)] (some 29) true), (.op .load1 [(.tmp 29)] (some 30) true), (.op (.append 1 8) [(.tmp 28), (.tmp 30)] (some 31) true), (.op (.faddr 10) [(.tmp 5)] (some 32) true), (.op .store1 [(.tmp 32), (.tmp 31)] none true)] false) (.view [.opn 5 none none 10 1] (.region [(.op (.faddr 5) [(.tmp 3)] (some 33) true), (.op .load1 [(.tmp 33)] (some 34) true), (.op (.loadN 11) [(.tmp 5)] (some 35) true), (.op (.bslice 11 1 (.agg [(.int .i64 0), (.int .i64 0), (.int .i64 0), (.int .i64 0), (.int .i64 0), (.int .i64 0), (.str ⟨#[]⟩), (.bool false), (.bool false), (.int .i64 0), .nil]) [0]) [(.tmp 35)] (some 36) true), (.op (.append 11 104) [(.tmp 34), (.tmp 36)] (some 37) true), (.op (.faddr 5) [(.tmp 3)] (some 38) true), (.op .store1 [(.tmp 38), (.tmp 37)] none true)] false))))) (.region [(.op .mv [(.tmp 4)] (some 21) true), (.op (.bin .add) [(.tmp 21), (.const (.int .i64 1))] (some 22) true), (.op .mv [(.tmp 22)] (some 4) true)] false)))
-- spec.l08Copy
def F183 : EF := ⟨(.seq (.region [(.op (.box 7) [(.tmp 0)] (some 1) true), (.op (.alloc (.agg [.nil, .nil, .nil, .nil, .nil, .nil, (.int .i64 0)])) [] (some 2) true)] false) (.seq (.region [(.op (.faddr 0) [(.tmp 1)] (some 6) false), (.op (.loadN 4) [(.tmp 6)] (some 7) false), (.pc (.const (.fn 158 [])) [(.tmp 7)] (some 8) false), (.op (.bslice 1 0 (.bool false) []) [] (some 9) false), (.op (.faddr 4) [(.tmp 1)] (some 10) false), (.op .load1 [(.tmp 10)] (some 11) false), (.op (.append 1 1) [(.tmp 9), (.tmp 11)] (some 12) false), (.op (.faddr 6) [(.tmp 1)] (some 13) false), (.op .load1 [(.tmp 13)] (some 14) false), (.op (.build [.nil, .nil, .nil, .nil, .nil, .nil, (.int .i64 0)] [(0, 4), (4, 1), (6, 1)]) [(.tmp 8), (.tmp 12), (.tmp 14)] (some 15) false), (.op (.alloc (.agg [.nil, .nil, .nil, .nil, .nil, .nil, (.int .i64 0)])) [] (some 3) false), (.op (.storeN 7) [(.tmp 3), (.tmp 15)] none true)] true) (.seq (.seq (.region [(.op .mv [(.const (.int .i64 0))] (some 4) true)] false) (.block 0 (.loop H183_3 L183_3))) (.seq (.view [.opn 3 none none 0 1, .opn 3 none none 1 1, .opn 3 none none 2 3, .opn 3 none none 3 3, .opn 3 none none 4 1, .opn 3 none none 5 11] (.region [(.op (.loadN 7) [(.tmp 3)] (some 39) true), (.op (.storeN 7) [(.tmp 2), (.tmp 39)] none true)] false)) .ret)))), [(.cell 2 (.loadN 7))], 40, (.agg [.one, .one, .one, .one, .one, .row 11 .one, .one]), none⟩
theorem t183 : T 183 = some F183 := tab Try.func183 (by kernel_rfl) rfl
-- impl.copyMem
def F185 : EF := ⟨(.seq (.region [(.op (.box 7) [(.tmp 0)] (some 1) true), (.op (.alloc (.agg [.nil, .nil, .nil, .nil, .nil, .nil, (.int .i64 0)])) [] (some 2) true)] false) (.seq (.region [(.op (.faddr 0) [(.tmp 1)] (some 3) false), (.op (.loadN 4) [(.tmp 3)] (some 4) false), (.pc (.const (.fn 159 [])) [(.tmp 4)] (some 5) false), (.op (.faddr 4) [(.tmp 1)] (some 6) false), (.op .load1 [(.tmp 6)] (some 7) false), (.pc (.const (.fn 238 [])) [(.tmp 7)] (some 8) false), (.op (.faddr 5) [(.tmp 1)] (some 9) false), (.op .load1 [(.tmp 9)] (some 10) false), (.pc (.const (.fn 239 [])) [(.tmp 10)] (some 11) false), (.op (.faddr 6) [(.tmp 1)] (some 12) false), (.op .load1 [(.tmp 12)] (some 13) false), (.op (.build [.nil, .nil, .nil, .nil, .nil, .nil, (.int .i64 0)] [(0, 4), (4, 1), (5, 1), (6, 1)]) [(.tmp 5), (.tmp 8), (.tmp 11), (.tmp 13)] (some 14) true), (.op (.storeN 7) [(.tmp 2), (.tmp 14)] none true)] true) .ret)), [(.cell 2 (.loadN 7))], 15, .one, none⟩
theorem t185 : T 185 = some F185 := tab Try.func185 (by kernel_rfl) rfl
-- (*impl.Mem).put
def F186 : EF := ⟨(.seq (.region [(.op (.box 11) [(.tmp 1)] (some 3) true), (.op .mv [(.const (.int .i64 0))] (some 4) true)] false) (.seq (.seq (.region [(.op .mv [(.tmp 0)] (some 5) true), (.op .nilck [(.tmp 5)] (some 6) true), (.op (.loadN 7) [(.tmp 6)] (some 7) true), (.pc (.const (.fn 240 [])) [(.tmp 7)] (some 8) true), (.op .not [(.tmp 8)] (some 9) true)] false) (.cond (.tmp 9) (.seq (.region [(.op .mv [(.const (.int .i64 0))] (some 4) true)] false) .ret) .skip)) (.seq (.region [(.op .mv [(.tmp 0)] (some 10) true), (.op .nilck [(.tmp 10)] (some 11) true), (.op (.faddr 6) [(.tmp 11)] (some 12) true), (.op .load1 [(.tmp 12)] (some 13) true), (.op (.faddr 0) [(.tmp 3)] (some 14) true), (.op .store1 [(.tmp 14), (.tmp 13)] none true)] false) (.seq (.region [(.op .mv [(.tmp 0)] (some 15) false), (.op .mv [(.tmp 0)] (some 16) false), (.op .nilck [(.tmp 16)] (some 17) false), (.op (.faddr 5) [(.tmp 17)] (some 18) false), (.op .load1 [(.tmp 18)] (some 19) false), (.op (.loadN 11) [(.tmp 3)] (some 20) false), (.pc (.const (.fn 241 [])) [(.tmp 20)] (some 21) false), (.op (.bslice 11 1 (.agg [(.int .i64 0), (.int .i64 0), (.int .i64 0), (.int .i64 0), (.int .i64 0), (.int .i64 0), (.str ⟨#[]⟩), (.bool false), (.bool false), (.int .i64 0), .nil]) [0]) [(.tmp 21)] (some 22) false), (.op (.append 11 104) [(.tmp 19), (.tmp 22)] (some 23) true), (.op .nilck [(.tmp 15)] (some 24) true), (.op (.faddr 5) [(.tmp 24)] (some 25) true), (.op .store1 [(.tmp 25), (.tmp 23)] none true)] true) (.seq (.region [(.op .mv [(.tmp 0)] (some 26) true), (.op .nilck [(.tmp 26)] (some 27) true), (.op (.faddr 6) [(.tmp 27)] (some 28) true), (.op .load1 [(.tmp 28)] (some 29) true), (.op (.bin .add) [(.tmp 29), (.const (.int .i64 1))] (some 30) true), (.op .nilck [(.tmp 26)] (some 31) true), (.op (.faddr 6) [(.tmp 31)] (some 32) true), (.op .store1 [(.tmp 32), (.tmp 30)] none true)] false) (.seq (.region [(.op (.faddr 0) [(.tmp 3)] (some 33) true), (.op .load1 [(.tmp 33)] (some 34) true), (.op .mv [(.tmp 34)] (some 4) true)] false) .ret)))))), [(.tmp 4)], 35, .one, none⟩
theorem t186 : T 186 = some F186 := tab Try.func186 (by kernel_rfl) rfl
-- spec.FirstFree
-- spec.l08Mark
-- (*impl.Mem).take
def H239_3 : List Vw := [.lay 3 11, .tidy [3, 7, 8, 9] [(3, none), (7, none), (8, none), (9, none)]]
theorem h239_3 (b : Nat) (s : St) : vwL b H239_3 s = vwL b [.lay 3 11, .tidy [3, 7, 8, 9] [(3, none), (7, none), (8, none), (9, none)]] s := rfl
def L239_3 : EC := (.seq (.region [(.op (.bin .lss) [(.tmp 9), (.tmp 8)] (some 10) true)] false) (.seq (.cond (.tmp 10) .skip (.exit 0)) (.seq (.block 1 (.seq (.region [(.op (.iaddr 11) [(.tmp 7), (.tmp 9)] (some 11) true), (.op (.loadN 11) [(.tmp 11)] (some 12) true), (.op (.alloc (.agg [(.int .i64 0), (.int .i64 0), (.int .i64 0), (.int .i64 0), (.int .i64 0), (.int .i64 0), (.str ⟨#[]⟩), (.bool false), (.bool false), (.int .i64 0), .nil])) [] (some 5) true), (.op (.storeN 11) [(.tmp 5), (.tmp 12)] none true)] false) (.region [(.op .mv [(.tmp 3)] (some 13) true), (.op (.loadN 11) [(.tmp 5)] (some 14) true), (.pc (.const (.fn 241 [])) [(.tmp 14)] (some 15) true), (.op (.bslice 11 1 (.agg [(.int .i64 0), (.int .i64 0), (.int .i64 0), (.int .i64 0), (.int .i64 0), (.int .i64 0), (.str ⟨#[]⟩), (.bool false), (.bool false), (.int .i64 0), .nil]) [0]) [(.tmp 15)] (some 16) true), (.op (.append 11 104) [(.tmp 13), (.tmp 16)] (some 17) true), (.op .mv [(.tmp 17)] (some 3) true)] false))) (.region [(.op (.bin .add) [(.tmp 9), (.const (.int .i64 1))] (some 18) true), (.op .mv [(.tmp 18)] (some 9) true)] false))))
-- impl.copyDeps
def F239 : EF := ⟨(.seq (.region [(.op .mv [(.const .nil)] (some 2) true)] false) (.seq (.region [(.op (.bslice 11 0 (.agg [(.int .i64 0), (.int .i64 0), (.int .i64 0), (.int .i64 0), (.int .i64 0), (.int .i64 0), (.str ⟨#[]⟩), (.bool false), (.bool false), (.int .i64 0), .nil]) []) [] (some 6) true), (.op .mv [(.tmp 6)] (some 3) true)] false) (.seq (.seq (.region [(.op .mv [(.tmp 0)] (some 7) true), (.op .len [(.tmp 7)] (some 8) true), (.op .mv [(.const (.int .i64 0))] (some 9) true)] false) (.block 0 (.loop H239_3 L239_3))) (.seq (.region [(.op .mv [(.tmp 3)] (some 19) true), (.op .mv [(.tmp 19)] (some 2) true)] false) .ret)))), [(.tmp 2)], 20, (.row 11 .one), none⟩
theorem t239 : T 239 = some F239 := tab Try.func239 (by kernel_rfl) rfl
-- impl.mayPut
def F240 : EF := ⟨(.seq (.region [(.op (.box 7) [(.tmp 0)] (some 1) true), (.op .mv [(.const (.bool false))] (some 2) true)] false) (.seq (.region [(.op (.faddr 5) [(.tmp 1)] (some 3) true), (.op .load1 [(.tmp 3)] (some 4) true), (.op .len [(.tmp 4)] (some 5) true), (.op (.bin .lss) [(.tmp 5), (.const (.int .i64 40))] (some 6) true), (.op .mv [(.tmp 6)] (some 7) true), (.grp 7 true [(.op (.faddr 6) [(.tmp 1)] (some 8) true), (.op .load1 [(.tmp 8)] (some 9) true), (.pc (.const (.fn 117 [])) [(.tmp 9), (.const (.int .i64 1)), (.const (.int .i64 99999))] (some 10) true)] 10 11 true), (.op .mv [(.tmp 11)] (some 2) true)] false) .ret)), [(.tmp 2)], 12, .one, none⟩
theorem t240 : T 240 = some F240 := tab Try.func240 (by kernel_rfl) rfl
-- impl.copyDep
def F241 : EF := ⟨(.seq (.region [(.op (.box 11) [(.tmp 0)] (some 1) true), (.op (.alloc (.agg [(.int .i64 0), (.int .i64 0), (.int .i64 0), (.int .i64 0), (.int .i64 0), (.int .i64 0), (.str ⟨#[]⟩), (.bool false), (.bool false), (.int .i64 0), .nil])) [] (some 2) true)] false) (.seq (.region [(.op (.faddr 10) [(.tmp 1)] (some 3) true), (.op .load1 [(.tmp 3)] (some 4) true), (.pc (.const (.fn 217 [])) [(.tmp 4)] (some 5) true), (.op (.faddr 10) [(.tmp 1)] (some 6) true), (.op .store1 [(.tmp 6), (.tmp 5)] none true)] false) (.seq (.region [(.op (.loadN 11) [(.tmp 1)] (some 7) true), (.op (.storeN 11) [(.tmp 2), (.tmp 7)] none true)] false) .ret))), [(.cell 2 (.loadN 11))], 8, .one, none⟩
theorem t241 : T 241 = some F241 := tab Try.func241 (by kernel_rfl) rfl
-- impl.FirstFree
-- (*impl.Mem).mark
end Go.Proofs.Ytaaajjinpppgeaa

/- The code of some functions, as the evaluator reads it (printed by a program of ours), checked against the program. Own work; no condition. -/
set_option linter.unusedVariables false
set_option linter.unusedSimpArgs false
set_option linter.unusedSectionVars false
namespace Go.Proofs.Ytaaajjinpppgeaa
open Go Go.Abs
set_option maxRecDepth 100000
def H158_3 : List Vw := [.opn 3 none none 2 3, .tidy [1, 2, 3, 4] [(1, none), (2, none), (3, none), (4, none), (3, some 2)]]
theorem h158_3 (b : Nat) (s : St) : vwL b H158_3 s = vwL b [.opn 3 none none 2 3, .tidy [1, 2, 3, 4] [(1, none), (2, none), (3, none), (4, none), (3, some 2)]] s := rfl
def L158_3 : EC := (.seq (.seq (.region [(.op .mv [(.tmp 4)] (some 10) true), (.op (.faddr 2) [(.tmp 1)] (some 11) true), (.op .load1 [(.tmp 11)] (some 12) true), (.op .len [(.tmp 12)] (some 13) true), (.op (.bin .lss) [(.tmp 10), (.tmp 13)] (some 14) true)] false) (.cond (.tmp 14) .skip (.exit 0))) (.seq (.block 1 (.region [(.op (.faddr 2) [(.tmp 3)] (some 17) false), (.op .load1 [(.tmp 17)] (some 18) false), (.op (.faddr 2) [(.tmp 1)] (some 19) false), (.op .load1 [(.tmp 19)] (some 20) false), (.op .mv [(.tmp 4)] (some 21) false), (.op (.iaddr 3) [(.tmp 20), (.tmp 21)] (some 22) false), (.op (.loadN 3) [(.tmp 22)] (some 23) false), (.pc (.const (.fn 142 [])) [(.tmp 23)] (some 24) false), (.op (.bslice 3 1 (.agg [(.int .i64 0), (.int .i64 0), .nil]) [0]) [(.tmp 24)] (some 25) false), (.op (.append 3 40) [(.tmp 18), (.tmp 25)] (some 26) true), (.op (.faddr 2) [(.tmp 3)] (some 27) true), (.op .store1 [(.tmp 27), (.tmp 26)] none true)] true)) (.region [(.op .mv [(.tmp 4)] (some 15) true), (.op (.bin .add) [(.tmp 15), (.const (.int .i64 1))] (some 16) true), (.op .mv [(.tmp 16)] (some 4) true)] false)))
def H158_8 : List Vw := [.opn 3 none none 3 3, .tidy [1, 2, 3, 5] [(1, none), (2, none), (3, none), (5, none), (3, some 3)]]
theorem h158_8 (b : Nat) (s : St) : vwL b H158_8 s = vwL b [.opn 3 none none 3 3, .tidy [1, 2, 3, 5] [(1, none), (2, none), (3, none), (5, none), (3, some 3)]] s := rfl
def L158_8 : EC := (.seq (.seq (.region [(.op .mv [(.tmp 5)] (some 28) true), (.op (.faddr 3) [(.tmp 1)] (some 29) true), (.op .load1 [(.tmp 29)] (some 30) true), (.op .len [(.tmp 30)] (some 31) true), (.op (.bin .lss) [(.tmp 28), (.tmp 31)] (some 32) true)] false) (.cond (.tmp 32) .skip (.exit 2))) (.seq (.block 3 (.region [(.op (.faddr 3) [(.tmp 3)] (some 35) false), (.op .load1 [(.tmp 35)] (some 36) false), (.op (.faddr 3) [(.tmp 1)] (some 37) false), (.op .load1 [(.tmp 37)] (some 38) false), (.op .mv [(.tmp 5)] (some 39) false), (.op (.iaddr 3) [(.tmp 38), (.tmp 39)] (some 40) false), (.op (.loadN 3) [(.tmp 40)] (some 41) false), (.pc (.const (.fn 147 [])) [(.tmp 41)] (some 42) false), (.op (.bslice 3 1 (.agg [(.bool false), .nil, (.str ⟨#[]⟩)]) [0]) [(.tmp 42)] (some 43) false), (.op (.append 3 48) [(.tmp 36), (.tmp 43)] (some 44) true), (.op (.faddr 3) [(.tmp 3)] (some 45) true), (.op .store1 [(.tmp 45), (.tmp 44)] none true)] true)) (.region [(.op .mv [(.tmp 5)] (some 33) true), (.op (.bin .add) [(.tmp 33), (.const (.int .i64 1))] (some 34) true), (.op .mv [(.tmp 34)] (some 5) true)] false)))
-- spec.l07Copy
def F158 : EF := ⟨(.seq (.region [(.op (.box 4) [(.tmp 0)] (some 1) true), (.op (.alloc (.agg [.nil, .nil, .nil, .nil])) [] (some 2) true)] false) (.seq (.region [(.op (.faddr 0) [(.tmp 1)] (some 6) true), (.op (.loadN 2) [(.tmp 6)] (some 7) true), (.pc (.const (.fn 233 [])) [(.tmp 7)] (some 8) true), (.op (.build [.nil, .nil, .nil, .nil] [(0, 2)]) [(.tmp 8)] (some 9) true), (.op (.alloc (.agg [.nil, .nil, .nil, .nil])) [] (some 3) true), (.op (.storeN 4) [(.tmp 3), (.tmp 9)] none true)] false) (.seq (.seq (.region [(.op .mv [(.const (.int .i64 0))] (some 4) true)] false) (.block 0 (.loop H158_3 L158_3))) (.seq (.seq (.region [(.op .mv [(.const (.int .i64 0))] (some 5) true)] false) (.block 2 (.loop H158_8 L158_8))) (.seq (.view [.opn 3 none none 0 1, .opn 3 none none 1 1, .opn 3 none none 2 3, .opn 3 none none 3 3] (.region [(.op (.loadN 4) [(.tmp 3)] (some 46) true), (.op (.storeN 4) [(.tmp 2), (.tmp 46)] none true)] false)) .ret))))), [(.cell 2 (.loadN 4))], 47, .one, none⟩
theorem t158 : T 158 = some F158 := tab Try.func158 (by kernel_rfl) rfl
def H159_3 : List Vw := [.opn 3 none none 2 3, .tidy [1, 2, 3, 13, 14, 15] [(1, none), (2, none), (3, none), (13, none), (14, none), (15, none), (3, some 2)]]
theorem h159_3 (b : Nat) (s : St) : vwL b H159_3 s = vwL b [.opn 3 none none 2 3, .tidy [1, 2, 3, 13, 14, 15] [(1, none), (2, none), (3, none), (13, none), (14, none), (15, none), (3, some 2)]] s := rfl
def L159_3 : EC := (.seq (.region [(.op (.bin .lss) [(.tmp 15), (.tmp 14)] (some 16) true)] false) (.seq (.cond (.tmp 16) .skip (.exit 0)) (.seq (.block 1 (.seq (.region [(.op (.iaddr 3) [(.tmp 13), (.tmp 15)] (some 17) true), (.op (.loadN 3) [(.tmp 17)] (some 18) true), (.op (.alloc (.agg [(.int .i64 0), (.int .i64 0), .nil])) [] (some 5) true), (.op (.storeN 3) [(.tmp 5), (.tmp 18)] none true)] false) (.region [(.op (.faddr 2) [(.tmp 3)] (some 19) false), (.op .load1 [(.tmp 19)] (some 20) false), (.op (.loadN 3) [(.tmp 5)] (some 21) false), (.pc (.const (.fn 144 [])) [(.tmp 21)] (some 22) false), (.op (.bslice 3 1 (.agg [(.int .i64 0), (.int .i64 0), .nil]) [0]) [(.tmp 22)] (some 23) false), (.op (.append 3 40) [(.tmp 20), (.tmp 23)] (some 24) true), (.op (.faddr 2) [(.tmp 3)] (some 25) true), (.op .store1 [(.tmp 25), (.tmp 24)] none true)] true))) (.region [(.op (.bin .add) [(.tmp 15), (.const (.int .i64 1))] (some 26) true), (.op .mv [(.tmp 26)] (some 15) true)] false))))
def H159_9 : List Vw := [.opn 3 none none 3 3, .tidy [2, 3, 28, 29, 30] [(2, none), (3, none), (28, none), (29, none), (30, none), (3, some 3)]]
theorem h159_9 (b : Nat) (s : St) : vwL b H159_9 s = vwL b [.opn 3 none none 3 3, .tidy [2, 3, 28, 29, 30] [(2, none), (3, none), (28, none), (29, none), (30, none), (3, some 3)]] s := rfl
def L159_9 : EC := (.seq (.region [(.op (.bin .lss) [(.tmp 30), (.tmp 29)] (some 31) true)] false) (.seq (.cond (.tmp 31) .skip (.exit 2)) (.seq (.block 3 (.seq (.region [(.op (.iaddr 3) [(.tmp 28), (.tmp 30)] (some 32) true), (.op (.loadN 3) [(.tmp 32)] (some 33) true), (.op (.alloc (.agg [(.bool false), .nil, (.str ⟨#[]⟩)])) [] (some 7) true), (.op (.storeN 3) [(.tmp 7), (.tmp 33)] none true)] false) (.region [(.op (.faddr 3) [(.tmp 3)] (some 34) false), (.op .load1 [(.tmp 34)] (some 35) false), (.op (.loadN 3) [(.tmp 7)] (some 36) false), (.pc (.const (.fn 148 [])) [(.tmp 36)] (some 37) false), (.op (.bslice 3 1 (.agg [(.bool false), .nil, (.str ⟨#[]⟩)]) [0]) [(.tmp 37)] (some 38) false), (.op (.append 3 48) [(.tmp 35), (.tmp 38)] (some 39) true), (.op (.faddr 3) [(.tmp 3)] (some 40) true), (.op .store1 [(.tmp 40), (.tmp 39)] none true)] true))) (.region [(.op (.bin .add) [(.tmp 30), (.const (.int .i64 1))] (some 41) true), (.op .mv [(.tmp 41)] (some 30) true)] false))))
-- impl.copyDisk
def F159 : EF := ⟨(.seq (.region [(.op (.box 4) [(.tmp 0)] (some 1) true), (.op (.alloc (.agg [.nil, .nil, .nil, .nil])) [] (some 2) true)] false) (.seq (.region [(.op (.faddr 0) [(.tmp 1)] (some 8) true), (.op (.loadN 2) [(.tmp 8)] (some 9) true), (.pc (.const (.fn 199 [])) [(.tmp 9)] (some 10) true), (.op (.build [.nil, .nil, .nil, .nil] [(0, 2)]) [(.tmp 10)] (some 11) true), (.op (.alloc (.agg [.nil, .nil, .nil, .nil])) [] (some 3) true), (.op (.storeN 4) [(.tmp 3), (.tmp 11)] none true)] false) (.seq (.seq (.region [(.op (.faddr 2) [(.tmp 1)] (some 12) true), (.op .load1 [(.tmp 12)] (some 13) true), (.op .len [(.tmp 13)] (some 14) true), (.op .mv [(.const (.int .i64 0))] (some 15) true)] false) (.block 0 (.loop H159_3 L159_3))) (.seq (.seq (.region [(.op (.faddr 3) [(.tmp 1)] (some 27) true), (.op .load1 [(.tmp 27)] (some 28) true), (.op .len [(.tmp 28)] (some 29) true), (.op .mv [(.const (.int .i64 0))] (some 30) true)] false) (.block 2 (.loop H159_9 L159_9))) (.seq (.view [.opn 3 none none 0 1, .opn 3 none none 1 1, .opn 3 none none 2 3, .opn 3 none none 3 3] (.region [(.op (.loadN 4) [(.tmp 3)] (some 42) true), (.op (.storeN 4) [(.tmp 2), (.tmp 42)] none true)] false)) .ret))))), [(.cell 2 (.loadN 4))], 43, .one, none⟩
theorem t159 : T 159 = some F159 := tab Try.func159 (by kernel_rfl) rfl
-- impl.copyBits
def F199 : EF := ⟨(.seq (.region [(.op (.box 2) [(.tmp 0)] (some 1) true), (.op (.alloc (.agg [.nil, .nil])) [] (some 2) true)] false) (.seq (.region [(.op (.faddr 0) [(.tmp 1)] (some 3) false), (.op .load1 [(.tmp 3)] (some 4) false), (.pc (.const (.fn 238 [])) [(.tmp 4)] (some 5) false), (.op (.faddr 1) [(.tmp 1)] (some 6) false), (.op .load1 [(.tmp 6)] (some 7) false), (.pc (.const (.fn 238 [])) [(.tmp 7)] (some 8) true), (.op (.build [.nil, .nil] [(0, 1), (1, 1)]) [(.tmp 5), (.tmp 8)] (some 9) true), (.op (.storeN 2) [(.tmp 2), (.tmp 9)] none true)] true) .ret)), [(.cell 2 (.loadN 2))], 10, (.agg [.row 1 .one, .row 1 .one]), none⟩
theorem t199 : T 199 = some F199 := tab Try.func199 (by kernel_rfl) rfl
-- spec.l05Copy
def F233 : EF := ⟨(.seq (.region [(.op (.box 2) [(.tmp 0)] (some 1) true), (.op (.alloc (.agg [.nil, .nil])) [] (some 2) true)] false) (.seq (.region [(.op (.bslice 1 0 (.bool false) []) [] (some 3) false), (.op (.faddr 0) [(.tmp 1)] (some 4) false), (.op .load1 [(.tmp 4)] (some 5) false), (.op (.append 1 1) [(.tmp 3), (.tmp 5)] (some 6) false), (.op (.bslice 1 0 (.bool false) []) [] (some 7) false), (.op (.faddr 1) [(.tmp 1)] (some 8) false), (.op .load1 [(.tmp 8)] (some 9) false), (.op (.append 1 1) [(.tmp 7), (.tmp 9)] (some 10) true), (.op (.build [.nil, .nil] [(0, 1), (1, 1)]) [(.tmp 6), (.tmp 10)] (some 11) true), (.op (.storeN 2) [(.tmp 2), (.tmp 11)] none true)] true) .ret)), [(.cell 2 (.loadN 2))], 12, (.agg [.row 1 .one, .row 1 .one]), none⟩
theorem t233 : T 233 = some F233 := tab Try.func233 (by kernel_rfl) rfl
-- impl.copyBools
def F238 : EF := ⟨(.seq (.region [(.op .mv [(.const .nil)] (some 2) true)] false) (.seq (.region [(.op (.bslice 1 0 (.bool false) []) [] (some 3) true), (.op .mv [(.tmp 0)] (some 4) true), (.op (.append 1 1) [(.tmp 3), (.tmp 4)] (some 5) true), (.op .mv [(.tmp 5)] (some 2) true)] false) .ret)), [(.tmp 2)], 6, (.row 1 .one), none⟩
theorem t238 : T 238 = some F238 := tab Try.func238 (by kernel_rfl) rfl
-- spec.MemNew
-- impl.MemNew
-- laws.FnExactMemNew
end Go.Proofs.Ytaaajjinpppgeaa

/- The code of some functions, as the evaluator reads it (printed by a program of ours), checked against the program. Own work; no condition. -/
set_option linter.unusedVariables false
set_option linter.unusedSimpArgs false
set_option linter.unusedSectionVars false
namespace Go.Proofs.Ytaaajjinpppgeaa
open Go Go.Abs
set_option maxRecDepth 100000
-- laws.FnExactImageBlock
-- spec.ImageBlock
-- impl.ImageBlock
-- spec.l04Copy
def F147 : EF := ⟨(.seq (.region [(.op (.box 3) [(.tmp 0)] (some 1) true), (.op (.alloc (.agg [(.bool false), .nil, (.str ⟨#[]⟩)])) [] (some 2) true)] false) (.seq (.region [(.op (.bslice 2 0 (.agg [(.str ⟨#[]⟩), (.int .i64 0)]) []) [] (some 3) true), (.op (.faddr 1) [(.tmp 1)] (some 4) true), (.op .load1 [(.tmp 4)] (some 5) true), (.op (.append 2 24) [(.tmp 3), (.tmp 5)] (some 6) true), (.op (.faddr 1) [(.tmp 1)] (some 7) true), (.op .store1 [(.tmp 7), (.tmp 6)] none true)] false) (.seq (.region [(.op (.loadN 3) [(.tmp 1)] (some 8) true), (.op (.storeN 3) [(.tmp 2), (.tmp 8)] none true)] false) .ret))), [(.cell 2 (.loadN 3))], 9, (.agg [.one, .row 2 .one, .one]), none⟩
theorem t147 : T 147 = some F147 := tab Try.func147 (by kernel_rfl) rfl
-- impl.copyBlock
def F148 : EF := ⟨(.seq (.region [(.op (.box 3) [(.tmp 0)] (some 1) true), (.op (.alloc (.agg [(.bool false), .nil, (.str ⟨#[]⟩)])) [] (some 2) true)] false) (.seq (.region [(.op (.bslice 2 0 (.agg [(.str ⟨#[]⟩), (.int .i64 0)]) []) [] (some 3) true), (.op (.faddr 1) [(.tmp 1)] (some 4) true), (.op .load1 [(.tmp 4)] (some 5) true), (.op (.append 2 24) [(.tmp 3), (.tmp 5)] (some 6) true), (.op (.faddr 1) [(.tmp 1)] (some 7) true), (.op .store1 [(.tmp 7), (.tmp 6)] none true)] false) (.seq (.region [(.op (.loadN 3) [(.tmp 1)] (some 8) true), (.op (.storeN 3) [(.tmp 2), (.tmp 8)] none true)] false) .ret))), [(.cell 2 (.loadN 3))], 9, (.agg [.one, .row 2 .one, .one]), none⟩
theorem t148 : T 148 = some F148 := tab Try.func148 (by kernel_rfl) rfl
-- impl.blockAt
end Go.Proofs.Ytaaajjinpppgeaa

/- The code of some functions, as the evaluator reads it (printed by a program of ours), checked against the program. Own work; no condition. -/
set_option linter.unusedVariables false
set_option linter.unusedSimpArgs false
set_option linter.unusedSectionVars false
namespace Go.Proofs.Ytaaajjinpppgeaa
open Go Go.Abs
set_option maxRecDepth 100000
-- laws.FnExactImageInode
-- spec.ImageInode
-- impl.ImageInode
-- spec.l01In
def F116 : EF := ⟨(.seq (.region [(.op .mv [(.const (.bool false))] (some 6) true)] false) (.seq (.region [(.op .mv [(.tmp 0)] (some 7) true), (.op .mv [(.tmp 1)] (some 8) true), (.op (.bin .geq) [(.tmp 7), (.tmp 8)] (some 9) true), (.op .mv [(.tmp 9)] (some 10) true), (.grp 10 true [(.op .mv [(.tmp 0)] (some 11) true), (.op .mv [(.tmp 2)] (some 12) true), (.op (.bin .leq) [(.tmp 11), (.tmp 12)] (some 13) true)] 13 14 true), (.op .mv [(.tmp 14)] (some 6) true)] false) .ret)), [(.tmp 6)], 15, .one, none⟩
theorem t116 : T 116 = some F116 := tab Try.func116 (by kernel_rfl) rfl
-- impl.within
def F117 : EF := ⟨(.seq (.region [(.op .mv [(.const (.bool false))] (some 6) true)] false) (.seq (.region [(.op .mv [(.tmp 0)] (some 7) true), (.op .mv [(.tmp 1)] (some 8) true), (.op (.bin .geq) [(.tmp 7), (.tmp 8)] (some 9) true), (.op .mv [(.tmp 9)] (some 10) true), (.grp 10 true [(.op .mv [(.tmp 0)] (some 11) true), (.op .mv [(.tmp 2)] (some 12) true), (.op (.bin .leq) [(.tmp 11), (.tmp 12)] (some 13) true)] 13 14 true), (.op .mv [(.tmp 14)] (some 6) true)] false) .ret)), [(.tmp 6)], 15, .one, none⟩
theorem t117 : T 117 = some F117 := tab Try.func117 (by kernel_rfl) rfl
-- spec.InodeNew
-- spec.l03Copy
def F142 : EF := ⟨(.seq (.region [(.op (.box 3) [(.tmp 0)] (some 1) true), (.op (.alloc (.agg [(.int .i64 0), (.int .i64 0), .nil])) [] (some 2) true)] false) (.seq (.region [(.op (.bslice 1 0 (.int .i64 0) []) [] (some 3) true), (.op (.faddr 2) [(.tmp 1)] (some 4) true), (.op .load1 [(.tmp 4)] (some 5) true), (.op (.append 1 8) [(.tmp 3), (.tmp 5)] (some 6) true), (.op (.faddr 2) [(.tmp 1)] (some 7) true), (.op .store1 [(.tmp 7), (.tmp 6)] none true)] false) (.seq (.region [(.op (.loadN 3) [(.tmp 1)] (some 8) true), (.op (.storeN 3) [(.tmp 2), (.tmp 8)] none true)] false) .ret))), [(.cell 2 (.loadN 3))], 9, (.agg [.one, .one, .row 1 .one]), none⟩
theorem t142 : T 142 = some F142 := tab Try.func142 (by kernel_rfl) rfl
-- impl.InodeNew
-- impl.copyInode
def F144 : EF := ⟨(.seq (.region [(.op (.box 3) [(.tmp 0)] (some 1) true), (.op (.alloc (.agg [(.int .i64 0), (.int .i64 0), .nil])) [] (some 2) true)] false) (.seq (.region [(.op (.faddr 2) [(.tmp 1)] (some 3) true), (.op .load1 [(.tmp 3)] (some 4) true), (.pc (.const (.fn 217 [])) [(.tmp 4)] (some 5) true), (.op (.faddr 2) [(.tmp 1)] (some 6) true), (.op .store1 [(.tmp 6), (.tmp 5)] none true)] false) (.seq (.region [(.op (.loadN 3) [(.tmp 1)] (some 7) true), (.op (.storeN 3) [(.tmp 2), (.tmp 7)] none true)] false) .ret))), [(.cell 2 (.loadN 3))], 8, (.agg [.one, .one, .row 1 .one]), none⟩
theorem t144 : T 144 = some F144 := tab Try.func144 (by kernel_rfl) rfl
-- impl.copyInts
def F217 : EF := ⟨(.seq (.region [(.op .mv [(.const .nil)] (some 2) true)] false) (.seq (.region [(.op (.bslice 1 0 (.int .i64 0) []) [] (some 3) true), (.op .mv [(.tmp 0)] (some 4) true), (.op (.append 1 8) [(.tmp 3), (.tmp 4)] (some 5) true), (.op .mv [(.tmp 5)] (some 2) true)] false) .ret)), [(.tmp 2)], 6, (.row 1 .one), none⟩
theorem t217 : T 217 = some F217 := tab Try.func217 (by kernel_rfl) rfl
end Go.Proofs.Ytaaajjinpppgeaa

/- ImageInode: what is written of an inode. Own work; no condition. -/
set_option linter.unusedVariables false
set_option linter.unusedSimpArgs false
set_option linter.unusedSectionVars false
namespace Go.Proofs.Ytaaajjinpppgeaa
open Go Go.Abs
set_option maxRecDepth 100000
def inside (x a b : Int) : Bool := decide (a ≤ x) && decide (x ≤ b)
theorem e116i (x a b : Int) : E T 116 [.int .i64 x, .int .i64 a, .int .i64 b] [] = some (.bool (inside x a b), []) := by
  rw [E_eq t116 (Nat.le_of_ble_eq_true rfl)]; simp only [F116, go_sem, seval]; rfl
theorem e117i (x a b : Int) : E T 117 [.int .i64 x, .int .i64 a, .int .i64 b] [] = some (.bool (inside x a b), []) := by
  rw [E_eq t117 (Nat.le_of_ble_eq_true rfl)]; simp only [F117, go_sem, seval]; rfl
theorem e217 (l : List Int) (hl : l.length ≤ 1048576) : E T 217 [.ro 1 (l.map iv)] [] = some (.own 1 (l.map iv), []) := by
  rw [E_eqW t217 (Nat.le_of_ble_eq_true rfl)]
  cases l with
  | nil => simp only [F217, go_sem, seval, bnd_ite]
  | cons x xs =>
    have e := iv_mi
    have h : (xs.length + 1) * 8 ≤ 140737488355328 := by simp only [List.length_cons] at hl; omega
    simp only [F217, iv, go_sem, seval, bnd_ite, h]
theorem e144 (x : Ino) (h : x.sm) : E T 144 [ino x] [] = some (inoO x, []) := by
  rw [E_eqW t144 (Nat.le_of_ble_eq_true rfl)]
  have e1 := e217 x.ptrs h
  have htk : (List.map iv x.ptrs).take x.ptrs.length = List.map iv x.ptrs := List.take_of_length_le (by simp)
  simp only [ino, F144, go_sem, seval, bnd_ite, e1, inoO, htk]
theorem e142 (x : Ino) (h : x.sm) : E T 142 [ino x] [] = some (inoO x, []) := by
  rw [E_eqW t142 (Nat.le_of_ble_eq_true rfl)]
  obtain ⟨a, b, l⟩ := x
  cases l with
  | nil => simp only [ino, F142, go_sem, seval, bnd_ite, inoO]
  | cons y ys =>
    have h : (ys.length + 1) * 8 ≤ 140737488355328 := by unfold Ino.sm at h; simp only [List.length_cons] at h; omega
    simp only [ino, F142, iv, go_sem, seval, bnd_ite, h, inoO]
end Go.Proofs.Ytaaajjinpppgeaa

/- ImageBlock: copies of blocks. Own work; no condition. -/
set_option linter.unusedVariables false
set_option linter.unusedSimpArgs false
set_option linter.unusedSectionVars false
namespace Go.Proofs.Ytaaajjinpppgeaa
open Go Go.Abs
set_option maxRecDepth 100000
theorem e148 (x : Blk) (h : x.sm) : E T 148 [blk x] [] = some (blkO x, []) := by
  rw [E_eqW t148 (Nat.le_of_ble_eq_true rfl)]
  obtain ⟨a, l, b⟩ := x
  cases l with
  | nil => simp only [blk, F148, go_sem, seval, bnd_ite, blkO]
  | cons y ys =>
    have h : (ys.length + 1) * 24 ≤ 140737488355328 := by unfold Blk.sm at h; simp only [List.length_cons] at h; omega
    simp only [blk, F148, slt, go_sem, seval, bnd_ite, h, blkO]
theorem e147 (x : Blk) (h : x.sm) : E T 147 [blk x] [] = some (blkO x, []) := by
  rw [E_eqW t147 (Nat.le_of_ble_eq_true rfl)]
  obtain ⟨a, l, b⟩ := x
  cases l with
  | nil => simp only [blk, F147, go_sem, seval, bnd_ite, blkO]
  | cons y ys =>
    have h : (ys.length + 1) * 24 ≤ 140737488355328 := by unfold Blk.sm at h; simp only [List.length_cons] at h; omega
    simp only [blk, F147, slt, go_sem, seval, bnd_ite, h, blkO]
end Go.Proofs.Ytaaajjinpppgeaa

/- Loops over a row: what is carried, what is looked for. Own work; no condition. -/
set_option linter.unusedVariables false
set_option linter.unusedSimpArgs false
set_option linter.unusedSectionVars false
namespace Go.Proofs.Ytaaajjinpppgeaa
open Go Go.Abs
section
variable {T : FuncId → Option EF} {b : Nat} {hd : List Vw} {x : EC} {α β : Type}
/-- A loop over a row that turns what is carried, and leaves behind the last one. -/
theorem XL_each (l : List α) (f : β → α → β) (S : Nat → β → St) (I : Nat → β → Prop) (Q : β → AX × St → Prop)
    (step : ∀ i a p, l[i]? = some p → i < l.length → I i a → XG T b hd x (S i a) = some (.normal, S (i + 1) (f a p)) ∧ I (i + 1) (f a p))
    (last : ∀ a, I l.length a → Stops (XG T b hd x (S l.length a)) (Q a)) (a : β) (ha : I 0 a) : ∃ r, XL T b hd x (S 0 a) = some r ∧ Q (l.foldl f a) r := by
  have key : ∀ k i a, i + k = l.length → I i a → ∃ r, XL T b hd x (S i a) = some r ∧ Q ((l.drop i).foldl f a) r := by
    intro k
    induction k with
    | zero =>
      intro i a hi hI
      have : i = l.length := by omega
      subst this
      obtain ⟨r, h1, h2, h3⟩ := last a hI
      exact ⟨r, XL_out h1 h2, by simpa using h3⟩
    | succ k ih =>
      intro i a hi hI
      have hlt : i < l.length := by omega
      obtain ⟨h1, h2⟩ := step i a l[i] (by simp [hlt]) hlt hI
      obtain ⟨r, h3, h4⟩ := ih (i + 1) (f a l[i]) (by omega) h2
      refine ⟨r, by rw [XL_eq, h1]; exact h3, ?_⟩
      rw [List.drop_eq_getElem_cons hlt]; exact h4
  obtain ⟨r, h1, h2⟩ := key l.length 0 a (by omega) ha
  exact ⟨r, h1, by simpa using h2⟩
end
end Go.Proofs.Ytaaajjinpppgeaa

/- Copies of disks. Own work; no condition. -/
set_option linter.unusedVariables false
set_option linter.unusedSimpArgs false
set_option linter.unusedSectionVars false
namespace Go.Proofs.Ytaaajjinpppgeaa
open Go Go.Abs
set_option maxRecDepth 100000
theorem e238 (l : List Bool) (hl : l.length ≤ 1048576) : E T 238 [.ro 1 (l.map bv)] [] = some (.own 1 (l.map bv), []) := by
  rw [E_eqW t238 (Nat.le_of_ble_eq_true rfl)]
  cases l with
  | nil => simp only [F238, go_sem, seval, bnd_ite]
  | cons x xs =>
    have h : (xs.length + 1) * 1 ≤ 140737488355328 := by simp only [List.length_cons] at hl; omega
    simp only [F238, bv, go_sem, seval, bnd_ite, h]
theorem e199 (a b : List Bool) (ha : a.length ≤ 1048576) (hb : b.length ≤ 1048576) : E T 199 [.agg [.ro 1 (a.map bv), .ro 1 (b.map bv)]] [] = some (.agg [.own 1 (a.map bv), .own 1 (b.map bv)], []) := by
  rw [E_eqW t199 (Nat.le_of_ble_eq_true rfl)]
  have e1 := e238 a ha
  have e2 := e238 b hb
  have t1 : (a.map bv).take a.length = a.map bv := List.take_of_length_le (by simp)
  have t2 : (b.map bv).take b.length = b.map bv := List.take_of_length_le (by simp)
  simp only [F199, go_sem, seval, bnd_ite, e1, e2, t1, t2]
theorem e233 (a b : List Bool) (ha : a.length ≤ 1048576) (hb : b.length ≤ 1048576) : E T 233 [.agg [.ro 1 (a.map bv), .ro 1 (b.map bv)]] [] = some (.agg [.own 1 (a.map bv), .own 1 (b.map bv)], []) := by
  rw [E_eqW t233 (Nat.le_of_ble_eq_true rfl)]
  cases a with
  | nil =>
    cases b with
    | nil => simp only [F233, go_sem, seval, bnd_ite]
    | cons y ys =>
      have h : (ys.length + 1) * 1 ≤ 140737488355328 := by simp only [List.length_cons] at hb; omega
      simp only [F233, bv, go_sem, seval, bnd_ite, h]
  | cons x xs =>
    have h1 : (xs.length + 1) * 1 ≤ 140737488355328 := by simp only [List.length_cons] at ha; omega
    cases b with
    | nil => simp only [F233, bv, go_sem, seval, bnd_ite, h1]
    | cons y ys =>
      have h : (ys.length + 1) * 1 ≤ 140737488355328 := by simp only [List.length_cons] at hb; omega
      simp only [F233, bv, go_sem, seval, bnd_ite, h, h1]
theorem take_map {α : Type} {f : α → AV} {l : List α} {i : Nat} {p : α} (hp : l[i]? = some p) : (l.take i).map f ++ [f p] = (l.take (i + 1)).map f := by rw [take_snoc hp, List.map_append]; rfl
theorem takes_len {α : Type} {f : α → AV} {l : List α} {i : Nat} (hi : i ≤ l.length) : ((l.take i).map f).length = i := by rw [List.length_map, List.length_take]; omega
theorem snoc_facts {α : Type} {f : α → AV} (hc : ∀ x, coolX (f x) = true) {l : List α} {i : Nat} {p : α} (hp : l[i]? = some p) :
    ∃ M, (l.take i).map f = M ∧ M.length = i ∧ (∀ g, mapIdL g M = M) ∧ (∀ u, idsL u M = []) ∧ M.take i = M ∧ M ++ [f p] = (l.take (i + 1)).map f := by
  have hi := (List.getElem?_eq_some_iff.1 hp).1
  have hl : ((l.take i).map f).length = i := takes_len (Nat.le_of_lt hi)
  exact ⟨_, rfl, hl, fun g => mi_map g f _ hc, fun u => is_map u f _ hc, List.take_of_length_le (by omega), take_map hp⟩
def cpBox (x : Dsk) : AV := .agg [.ro 1 (x.used.map bv), .ro 1 (x.taken.map bv), .ro 3 (x.inos.map ino), .ro 3 (x.blks.map blk)]
theorem in159a (x : Dsk) (h : x.sm) : ∃ r, XL T 0 H159_3 L159_3 ⟨[(1, .ptr 0 0 0), (2, .ptr 1 0 0), (3, .ptr 2 0 0), (13, .ro 3 (x.inos.map ino)), (14, .int .i64 x.inos.length), (15, .int .i64 0)],
      [some (4, [cpBox x]), some (4, [.agg [.nil, .nil, .nil, .nil]]), some (4, [.agg [.own 1 (x.used.map bv), .own 1 (x.taken.map bv), .sl 3 0 0, .nil]]), some (3, [])]⟩ = some r ∧
    (r.1 = .exit 0 ∧ lookA r.2.env 1 = .ptr 0 0 0 ∧ lookA r.2.env 2 = .ptr 1 0 0 ∧ lookA r.2.env 3 = .ptr 2 0 0 ∧
      r.2.mem = [some (4, [cpBox x]), some (4, [.agg [.nil, .nil, .nil, .nil]]), some (4, [.agg [.own 1 (x.used.map bv), .own 1 (x.taken.map bv), .sl 3 0 x.inos.length, .nil]]), some (3, x.inos.map inoO)]) := by
  have hl := h.inos
  refine XL_each x.inos (fun (_ : Unit) _ => ()) (fun i _ => ⟨[(1, .ptr 0 0 0), (2, .ptr 1 0 0), (3, .ptr 2 0 0), (13, .ro 3 (x.inos.map ino)), (14, .int .i64 x.inos.length), (15, .int .i64 (i : Nat))],
      [some (4, [cpBox x]), some (4, [.agg [.nil, .nil, .nil, .nil]]), some (4, [.agg [.own 1 (x.used.map bv), .own 1 (x.taken.map bv), .sl 3 0 i, .nil]]), some (3, (x.inos.take i).map inoO)]⟩) (fun _ _ => True)
    (fun _ r => r.1 = .exit 0 ∧ lookA r.2.env 1 = .ptr 0 0 0 ∧ lookA r.2.env 2 = .ptr 1 0 0 ∧ lookA r.2.env 3 = .ptr 2 0 0 ∧
      r.2.mem = [some (4, [cpBox x]), some (4, [.agg [.nil, .nil, .nil, .nil]]), some (4, [.agg [.own 1 (x.used.map bv), .own 1 (x.taken.map bv), .sl 3 0 x.inos.length, .nil]]), some (3, x.inos.map inoO)]) ?step ?last () trivial
  case step =>
    intro i _ p hp hi _
    refine ⟨?_, trivial⟩
    have hi1 : (i : Int) < (x.inos.length : Int) := by omega
    have gp : (x.inos.map ino).getD i .undef = .agg [.int .i64 p.kind, .int .i64 p.links, .ro 1 (p.ptrs.map iv)] := gD_map hp
    have e1 := e144 p (h.ino p (List.mem_of_getElem? hp))
    unfold ino inoO at e1
    obtain ⟨M, hM, ml, mi, ms, mt, ma⟩ := snoc_facts inoO_cool hp
    unfold inoO at ma
    have htk : (List.map iv p.ptrs).take p.ptrs.length = List.map iv p.ptrs := List.take_of_length_le (by simp)
    have hap : (i + 1) * 40 ≤ 140737488355328 := by omega
    unfold cpBox
    simp only [hM]
    simp only [XG, L159_3, h159_3, go_sem, seval, bnd_ite, hi1, gp, e1, htk, ml, mi, ms, mt, ma, hap, Int.natCast_nonneg, w_i64 ((i : Int) + 1) (by omega)]
    rfl
  case last =>
    intro _ _
    unfold cpBox
    simp only [XG, L159_3, h159_3, go_sem, seval, bnd_ite, Int.lt_irrefl, decide_false]
    exact .mk (by simp) ⟨rfl, rfl, rfl, rfl, rfl⟩
theorem in159b (x : Dsk) (h : x.sm) : ∃ r, XL T 0 H159_9 L159_9 ⟨[(2, .ptr 0 0 0), (3, .ptr 1 0 0), (28, .ro 3 (x.blks.map blk)), (29, .int .i64 x.blks.length), (30, .int .i64 0)],
      [some (4, [.agg [.nil, .nil, .nil, .nil]]), some (4, [.agg [.own 1 (x.used.map bv), .own 1 (x.taken.map bv), .own 3 (x.inos.map inoO), .sl 2 0 0]]), some (3, [])]⟩ = some r ∧
    (r.1 = .exit 2 ∧ lookA r.2.env 2 = .ptr 0 0 0 ∧ lookA r.2.env 3 = .ptr 1 0 0 ∧
      r.2.mem = [some (4, [.agg [.nil, .nil, .nil, .nil]]), some (4, [.agg [.own 1 (x.used.map bv), .own 1 (x.taken.map bv), .own 3 (x.inos.map inoO), .sl 2 0 x.blks.length]]), some (3, x.blks.map blkO)]) := by
  have hl := h.blks
  refine XL_each x.blks (fun (_ : Unit) _ => ()) (fun i _ => ⟨[(2, .ptr 0 0 0), (3, .ptr 1 0 0), (28, .ro 3 (x.blks.map blk)), (29, .int .i64 x.blks.length), (30, .int .i64 (i : Nat))],
      [some (4, [.agg [.nil, .nil, .nil, .nil]]), some (4, [.agg [.own 1 (x.used.map bv), .own 1 (x.taken.map bv), .own 3 (x.inos.map inoO), .sl 2 0 i]]), some (3, (x.blks.take i).map blkO)]⟩) (fun _ _ => True)
    (fun _ r => r.1 = .exit 2 ∧ lookA r.2.env 2 = .ptr 0 0 0 ∧ lookA r.2.env 3 = .ptr 1 0 0 ∧
      r.2.mem = [some (4, [.agg [.nil, .nil, .nil, .nil]]), some (4, [.agg [.own 1 (x.used.map bv), .own 1 (x.taken.map bv), .own 3 (x.inos.map inoO), .sl 2 0 x.blks.length]]), some (3, x.blks.map blkO)]) ?step ?last () trivial
  case step =>
    intro i _ p hp hi _
    refine ⟨?_, trivial⟩
    have hi1 : (i : Int) < (x.blks.length : Int) := by omega
    have gp : (x.blks.map blk).getD i .undef = .agg [.bool p.dir, .ro 2 (p.slots.map slt), .str p.text] := gD_map hp
    have e1 := e148 p (h.blk p (List.mem_of_getElem? hp))
    unfold blk blkO at e1
    obtain ⟨M, hM, ml, mi, ms, mt, ma⟩ := snoc_facts blkO_cool hp
    unfold blkO at ma
    have htk : (List.map slt p.slots).take p.slots.length = List.map slt p.slots := List.take_of_length_le (by simp)
    have hap : (i + 1) * 48 ≤ 140737488355328 := by omega
    simp only [hM]
    simp only [XG, L159_9, h159_9, go_sem, seval, bnd_ite, hi1, gp, e1, htk, ml, mi, ms, mt, ma, hap, Int.natCast_nonneg, w_i64 ((i : Int) + 1) (by omega)]
    rfl
  case last =>
    intro _ _
    simp only [XG, L159_9, h159_9, go_sem, seval, bnd_ite, Int.lt_irrefl, decide_false]
    exact .mk (by simp) ⟨rfl, rfl, rfl, rfl⟩
theorem e159 (x : Dsk) (h : x.sm) : E T 159 [dsk x] [] = some (dskO x, []) := by
  rw [E_eq t159 (Nat.le_of_ble_eq_true rfl)]
  have e1 := e199 x.used x.taken h.used h.taken
  obtain ⟨⟨y, e, m⟩, k1, kx, k2, k3, k4, km⟩ := in159a x h
  simp only at kx k2 k3 k4 km; subst kx; subst km
  obtain ⟨⟨y, e', m⟩, l1, lx, l2, l3, lm⟩ := in159b x h
  simp only at lx l2 l3 lm; subst lx; subst lm
  unfold cpBox at k1
  have t1 : (x.used.map bv).take x.used.length = x.used.map bv := List.take_of_length_le (by simp)
  have t2 : (x.taken.map bv).take x.taken.length = x.taken.map bv := List.take_of_length_le (by simp)
  have t3 : (x.inos.map inoO).take x.inos.length = x.inos.map inoO := List.take_of_length_le (by simp)
  have t4 : (x.blks.map blkO).take x.blks.length = x.blks.map blkO := List.take_of_length_le (by simp)
  simp only [dsk, F159, cpBox, h159_3, h159_9, go_sem, seval, bnd_ite, e1, k1, k2, k3, k4, l1, l2, l3, dskO, t1, t2, t3, t4]
theorem in158a (x : Dsk) (h : x.sm) : ∃ r, XL T 0 H158_3 L158_3 ⟨[(1, .ptr 0 0 0), (2, .ptr 1 0 0), (3, .ptr 2 0 0), (4, .int .i64 0)],
      [some (4, [cpBox x]), some (4, [.agg [.nil, .nil, .nil, .nil]]), some (4, [.agg [.own 1 (x.used.map bv), .own 1 (x.taken.map bv), .sl 3 0 0, .nil]]), some (3, [])]⟩ = some r ∧
    (r.1 = .exit 0 ∧ lookA r.2.env 1 = .ptr 0 0 0 ∧ lookA r.2.env 2 = .ptr 1 0 0 ∧ lookA r.2.env 3 = .ptr 2 0 0 ∧
      r.2.mem = [some (4, [cpBox x]), some (4, [.agg [.nil, .nil, .nil, .nil]]), some (4, [.agg [.own 1 (x.used.map bv), .own 1 (x.taken.map bv), .sl 3 0 x.inos.length, .nil]]), some (3, x.inos.map inoO)]) := by
  have hl := h.inos
  refine XL_each x.inos (fun (_ : Unit) _ => ()) (fun i _ => ⟨[(1, .ptr 0 0 0), (2, .ptr 1 0 0), (3, .ptr 2 0 0), (4, .int .i64 (i : Nat))],
      [some (4, [cpBox x]), some (4, [.agg [.nil, .nil, .nil, .nil]]), some (4, [.agg [.own 1 (x.used.map bv), .own 1 (x.taken.map bv), .sl 3 0 i, .nil]]), some (3, (x.inos.take i).map inoO)]⟩) (fun _ _ => True)
    (fun _ r => r.1 = .exit 0 ∧ lookA r.2.env 1 = .ptr 0 0 0 ∧ lookA r.2.env 2 = .ptr 1 0 0 ∧ lookA r.2.env 3 = .ptr 2 0 0 ∧
      r.2.mem = [some (4, [cpBox x]), some (4, [.agg [.nil, .nil, .nil, .nil]]), some (4, [.agg [.own 1 (x.used.map bv), .own 1 (x.taken.map bv), .sl 3 0 x.inos.length, .nil]]), some (3, x.inos.map inoO)]) ?step ?last () trivial
  case step =>
    intro i _ p hp hi _
    refine ⟨?_, trivial⟩
    have hi1 : (i : Int) < (x.inos.length : Int) := by omega
    have gp : (x.inos.map ino).getD i .undef = .agg [.int .i64 p.kind, .int .i64 p.links, .ro 1 (p.ptrs.map iv)] := gD_map hp
    have e1 := e142 p (h.ino p (List.mem_of_getElem? hp))
    unfold ino inoO at e1
    obtain ⟨M, hM, ml, mi, ms, mt, ma⟩ := snoc_facts inoO_cool hp
    unfold inoO at ma
    have htk : (List.map iv p.ptrs).take p.ptrs.length = List.map iv p.ptrs := List.take_of_length_le (by simp)
    have hap : (i + 1) * 40 ≤ 140737488355328 := by omega
    unfold cpBox
    simp only [hM]
    simp only [XG, L158_3, h158_3, go_sem, seval, bnd_ite, hi1, gp, e1, htk, ml, mi, ms, mt, ma, hap, Int.natCast_nonneg, w_i64 ((i : Int) + 1) (by omega)]
    rfl
  case last =>
    intro _ _
    unfold cpBox
    simp only [XG, L158_3, h158_3, go_sem, seval, bnd_ite, Int.lt_irrefl, decide_false]
    exact .mk (by simp) ⟨rfl, rfl, rfl, rfl, rfl⟩
theorem in158b (x : Dsk) (h : x.sm) : ∃ r, XL T 0 H158_8 L158_8 ⟨[(1, .ptr 0 0 0), (2, .ptr 1 0 0), (3, .ptr 2 0 0), (5, .int .i64 0)],
      [some (4, [cpBox x]), some (4, [.agg [.nil, .nil, .nil, .nil]]), some (4, [.agg [.own 1 (x.used.map bv), .own 1 (x.taken.map bv), .own 3 (x.inos.map inoO), .sl 3 0 0]]), some (3, [])]⟩ = some r ∧
    (r.1 = .exit 2 ∧ lookA r.2.env 2 = .ptr 1 0 0 ∧ lookA r.2.env 3 = .ptr 2 0 0 ∧
      r.2.mem = [some (4, [cpBox x]), some (4, [.agg [.nil, .nil, .nil, .nil]]), some (4, [.agg [.own 1 (x.used.map bv), .own 1 (x.taken.map bv), .own 3 (x.inos.map inoO), .sl 3 0 x.blks.length]]), some (3, x.blks.map blkO)]) := by
  have hl := h.blks
  refine XL_each x.blks (fun (_ : Unit) _ => ()) (fun i _ => ⟨[(1, .ptr 0 0 0), (2, .ptr 1 0 0), (3, .ptr 2 0 0), (5, .int .i64 (i : Nat))],
      [some (4, [cpBox x]), some (4, [.agg [.nil, .nil, .nil, .nil]]), some (4, [.agg [.own 1 (x.used.map bv), .own 1 (x.taken.map bv), .own 3 (x.inos.map inoO), .sl 3 0 i]]), some (3, (x.blks.take i).map blkO)]⟩) (fun _ _ => True)
    (fun _ r => r.1 = .exit 2 ∧ lookA r.2.env 2 = .ptr 1 0 0 ∧ lookA r.2.env 3 = .ptr 2 0 0 ∧
      r.2.mem = [some (4, [cpBox x]), some (4, [.agg [.nil, .nil, .nil, .nil]]), some (4, [.agg [.own 1 (x.used.map bv), .own 1 (x.taken.map bv), .own 3 (x.inos.map inoO), .sl 3 0 x.blks.length]]), some (3, x.blks.map blkO)]) ?step ?last () trivial
  case step =>
    intro i _ p hp hi _
    refine ⟨?_, trivial⟩
    have hi1 : (i : Int) < (x.blks.length : Int) := by omega
    have gp : (x.blks.map blk).getD i .undef = .agg [.bool p.dir, .ro 2 (p.slots.map slt), .str p.text] := gD_map hp
    have e1 := e147 p (h.blk p (List.mem_of_getElem? hp))
    unfold blk blkO at e1
    obtain ⟨M, hM, ml, mi, ms, mt, ma⟩ := snoc_facts blkO_cool hp
    unfold blkO at ma
    have htk : (List.map slt p.slots).take p.slots.length = List.map slt p.slots := List.take_of_length_le (by simp)
    have hap : (i + 1) * 48 ≤ 140737488355328 := by omega
    unfold cpBox
    simp only [hM]
    simp only [XG, L158_8, h158_8, go_sem, seval, bnd_ite, hi1, gp, e1, htk, ml, mi, ms, mt, ma, hap, Int.natCast_nonneg, w_i64 ((i : Int) + 1) (by omega)]
    rfl
  case last =>
    intro _ _
    unfold cpBox
    simp only [XG, L158_8, h158_8, go_sem, seval, bnd_ite, Int.lt_irrefl, decide_false]
    exact .mk (by simp) ⟨rfl, rfl, rfl, rfl⟩
theorem e158 (x : Dsk) (h : x.sm) : E T 158 [dsk x] [] = some (dskO x, []) := by
  rw [E_eq t158 (Nat.le_of_ble_eq_true rfl)]
  have e1 := e233 x.used x.taken h.used h.taken
  obtain ⟨⟨y, e, m⟩, k1, kx, k2, k3, k4, km⟩ := in158a x h
  simp only at kx k2 k3 k4 km; subst kx; subst km
  obtain ⟨⟨y, e', m⟩, l1, lx, l2, l3, lm⟩ := in158b x h
  simp only at lx l2 l3 lm; subst lx; subst lm
  unfold cpBox at k1 l1
  have t1 : (x.used.map bv).take x.used.length = x.used.map bv := List.take_of_length_le (by simp)
  have t2 : (x.taken.map bv).take x.taken.length = x.taken.map bv := List.take_of_length_le (by simp)
  have t3 : (x.inos.map inoO).take x.inos.length = x.inos.map inoO := List.take_of_length_le (by simp)
  have t4 : (x.blks.map blkO).take x.blks.length = x.blks.map blkO := List.take_of_length_le (by simp)
  simp only [dsk, F158, cpBox, h158_3, h158_8, go_sem, seval, bnd_ite, e1, k1, k2, k3, k4, l1, l2, l3, dskO, t1, t2, t3, t4]
end Go.Proofs.Ytaaajjinpppgeaa

/- Copies of a memory; the first that is free. Own work; no condition. -/
set_option linter.unusedVariables false
set_option linter.unusedSimpArgs false
set_option linter.unusedSectionVars false
namespace Go.Proofs.Ytaaajjinpppgeaa
open Go Go.Abs
set_option maxRecDepth 100000
theorem e241 (d : Dp) (h : d.sm) : E T 241 [dp d] [] = some (dpO d, []) := by
  rw [E_eq t241 (Nat.le_of_ble_eq_true rfl)]
  have e1 := e217 d.blocks h
  have tk : (d.blocks.map iv).take d.blocks.length = d.blocks.map iv := List.take_of_length_le (by simp)
  simp only [dp, dpO, F241, go_sem, seval, bnd_ite, e1, tk]
theorem e239 (l : List Dp) (hl : l.length ≤ 1048576) (hs : ∀ d ∈ l, d.sm) : E T 239 [.ro 11 (l.map dp)] [] = some (.own 11 (l.map dpO), []) := by
  rw [E_eqW t239 (Nat.le_of_ble_eq_true rfl)]
  refine (XL_each (T := T) (b := 0) (hd := H239_3) (x := L239_3) l (fun (_ : Unit) _ => ()) (fun i _ => ⟨[(3, .sl 0 0 i), (7, .ro 11 (l.map dp)), (8, .int .i64 l.length), (9, .int .i64 (i : Nat))], [some (11, (l.take i).map dpO)]⟩) (fun _ _ => True)
    (fun _ r => r.1 = .exit 0 ∧ lookA r.2.env 3 = .sl 0 0 l.length ∧ r.2.mem = [some (11, l.map dpO)]) ?step ?last () trivial).elim ?main
  case step =>
    intro i _ d hd hi _
    refine ⟨?_, trivial⟩
    have k1 : (i : Int) < (l.length : Int) := by omega
    have gd : (l.map dp).getD i .undef = .agg [.int .i64 d.id, .int .i64 d.kind, .int .i64 d.ino, .int .i64 d.ptr, .int .i64 d.block, .int .i64 d.slot, .str d.name, .bool d.bits, .bool d.other, .int .i64 d.after, .ro 1 (d.blocks.map iv)] := gD_map hd
    have e1 := e241 d (hs d (List.mem_of_getElem? hd))
    unfold dp dpO at e1
    obtain ⟨M, hM, ml, mi, ms, mt, ma⟩ := snoc_facts dpO_cool hd
    unfold dpO at ma
    have htk : (List.map iv d.blocks).take d.blocks.length = List.map iv d.blocks := List.take_of_length_le (by simp)
    have hap : (i + 1) * 104 ≤ 140737488355328 := by omega
    have hw := w_i64 ((i : Int) + 1) (by omega)
    simp only [hM]
    simp only [XG, L239_3, h239_3, go_sem, seval, bnd_ite, k1, gd, e1, htk, ml, mi, ms, mt, ma, hap, hw, Int.natCast_nonneg]
    first | done | rfl
  case last =>
    intro _ _
    simp only [XG, L239_3, h239_3, go_sem, seval, bnd_ite, Int.lt_irrefl, decide_false]
    exact .mk (by simp) ⟨rfl, rfl, by simp⟩
  case main =>
  have hs0 : ((0 : Nat) : Int) = 0 := rfl
  rintro ⟨y, e, m⟩ ⟨k1, kx, k2, km⟩
  simp only at kx k2 km; subst kx; subst km
  simp only [hs0, List.take_zero, List.map_nil] at k1
  have tk : (l.map dpO).take l.length = l.map dpO := List.take_of_length_le (by simp)
  simp only [F239, h239_3, go_sem, seval, bnd_ite, k1, k2, tk]
theorem e185 (x : Mm) (h : x.sm) : E T 185 [mm x] [] = some (mmO x, []) := by
  rw [E_eq t185 (Nat.le_of_ble_eq_true rfl)]
  have e1 := e159 x.disk h.disk
  have e2 := e238 x.dirty h.dirty
  have e3 := e239 x.deps h.deps h.dep
  unfold dsk dskO at e1
  have t1 : (x.disk.used.map bv).take x.disk.used.length = x.disk.used.map bv := List.take_of_length_le (by simp)
  have t2 : (x.disk.taken.map bv).take x.disk.taken.length = x.disk.taken.map bv := List.take_of_length_le (by simp)
  have t3 : (x.disk.inos.map inoO).take x.disk.inos.length = x.disk.inos.map inoO := List.take_of_length_le (by simp)
  have t4 : (x.disk.blks.map blkO).take x.disk.blks.length = x.disk.blks.map blkO := List.take_of_length_le (by simp)
  have t5 : (x.dirty.map bv).take x.dirty.length = x.dirty.map bv := List.take_of_length_le (by simp)
  have t6 : (x.deps.map dpO).take x.deps.length = x.deps.map dpO := List.take_of_length_le (by simp)
  simp only [mm, F185, go_sem, seval, bnd_ite, e1, e2, e3, t1, t2, t3, t4, t5, t6, mmO]
def mmBox (x : Mm) : AV := .agg [.ro 1 (x.disk.used.map bv), .ro 1 (x.disk.taken.map bv), .ro 3 (x.disk.inos.map ino), .ro 3 (x.disk.blks.map blk), .ro 1 (x.dirty.map bv), .ro 11 (x.deps.map dp), .int .i64 x.next]
def mmCp (x : Mm) (i : Nat) : AV := .agg [.own 1 (x.disk.used.map bv), .own 1 (x.disk.taken.map bv), .own 3 (x.disk.inos.map inoO), .own 3 (x.disk.blks.map blkO), .own 1 (x.dirty.map bv), .sl 3 0 i, .int .i64 x.next]
def mmNil : AV := .agg [.nil, .nil, .nil, .nil, .nil, .nil, .int .i64 0]
theorem in183 (x : Mm) (h : x.sm) : ∃ r, XL T 0 H183_3 L183_3 ⟨[(1, .ptr 0 0 0), (2, .ptr 1 0 0), (3, .ptr 2 0 0), (4, .int .i64 0)], [some (7, [mmBox x]), some (7, [mmNil]), some (7, [mmCp x 0]), some (11, [])]⟩ = some r ∧
    (r.1 = .exit 0 ∧ lookA r.2.env 2 = .ptr 1 0 0 ∧ lookA r.2.env 3 = .ptr 2 0 0 ∧ r.2.mem = [some (7, [mmBox x]), some (7, [mmNil]), some (7, [mmCp x x.deps.length]), some (11, x.deps.map dpO)]) := by
  have hl := h.deps
  refine XL_each x.deps (fun (_ : Unit) _ => ()) (fun i _ => ⟨[(1, .ptr 0 0 0), (2, .ptr 1 0 0), (3, .ptr 2 0 0), (4, .int .i64 (i : Nat))], [some (7, [mmBox x]), some (7, [mmNil]), some (7, [mmCp x i]), some (11, (x.deps.take i).map dpO)]⟩) (fun _ _ => True)
    (fun _ r => r.1 = .exit 0 ∧ lookA r.2.env 2 = .ptr 1 0 0 ∧ lookA r.2.env 3 = .ptr 2 0 0 ∧ r.2.mem = [some (7, [mmBox x]), some (7, [mmNil]), some (7, [mmCp x x.deps.length]), some (11, x.deps.map dpO)]) ?step ?last () trivial
  case step =>
    intro i _ d hd hi _
    refine ⟨?_, trivial⟩
    have k1 : (i : Int) < (x.deps.length : Int) := by omega
    have gd : (x.deps.map dp).getD i .undef = .agg [.int .i64 d.id, .int .i64 d.kind, .int .i64 d.ino, .int .i64 d.ptr, .int .i64 d.block, .int .i64 d.slot, .str d.name, .bool d.bits, .bool d.other, .int .i64 d.after, .ro 1 (d.blocks.map iv)] := gD_map hd
    have hds := h.dep d (List.mem_of_getElem? hd)
    unfold Dp.sm at hds
    obtain ⟨M, hM, ml, mi, ms, mt, ma⟩ := snoc_facts dpO_cool hd
    unfold dpO at ma
    have htk : (List.map iv d.blocks).take d.blocks.length = List.map iv d.blocks := List.take_of_length_le (by simp)
    have hap : (i + 1) * 104 ≤ 140737488355328 := by omega
    have hap2 : d.blocks.length * 8 ≤ 140737488355328 := by omega
    have hw := w_i64 ((i : Int) + 1) (by omega)
    unfold mmBox mmNil mmCp
    simp only [hM]
    cases hb : d.blocks with
    | nil =>
      rw [hb] at gd ma
      simp only [List.map_nil] at gd ma
      simp only [XG, L183_3, h183_3, go_sem, seval, bnd_ite, k1, gd, ml, mi, ms, mt, ma, hap, hw, Int.natCast_nonneg]
      first | done | rfl
    | cons q qs =>
      rw [hb] at gd ma hap2
      simp only [List.map_cons, iv, List.length_cons] at gd ma hap2
      have tq : (qs.map (fun z => AV.int .i64 z)).take qs.length = qs.map (fun z => AV.int .i64 z) := List.take_of_length_le (by simp)
      simp only [XG, L183_3, h183_3, iv, go_sem, seval, bnd_ite, k1, gd, tq, ml, mi, ms, mt, ma, hap, hap2, hw, Int.natCast_nonneg]
      first | done | rfl
  case last =>
    intro _ _
    unfold mmBox mmNil mmCp
    simp only [XG, L183_3, h183_3, go_sem, seval, bnd_ite, Int.lt_irrefl, decide_false]
    exact .mk (by simp) ⟨rfl, rfl, rfl, by simp⟩
theorem e183 (x : Mm) (h : x.sm) : E T 183 [mm x] [] = some (mmO x, []) := by
  rw [E_eqW t183 (Nat.le_of_ble_eq_true rfl)]
  have e1 := e158 x.disk h.disk
  unfold dsk dskO at e1
  have t1 : (x.disk.used.map bv).take x.disk.used.length = x.disk.used.map bv := List.take_of_length_le (by simp)
  have t2 : (x.disk.taken.map bv).take x.disk.taken.length = x.disk.taken.map bv := List.take_of_length_le (by simp)
  have t3 : (x.disk.inos.map inoO).take x.disk.inos.length = x.disk.inos.map inoO := List.take_of_length_le (by simp)
  have t4 : (x.disk.blks.map blkO).take x.disk.blks.length = x.disk.blks.map blkO := List.take_of_length_le (by simp)
  have t5 : (x.dirty.map bv).take x.dirty.length = x.dirty.map bv := List.take_of_length_le (by simp)
  have t6 : (x.deps.map dpO).take x.deps.length = x.deps.map dpO := List.take_of_length_le (by simp)
  have hd := h.dirty
  have hap : x.dirty.length * 1 ≤ 140737488355328 := by omega
  have hap' : x.dirty.length ≤ 140737488355328 := by omega
  obtain ⟨⟨y, e, m⟩, q1, qx, q2, q3, qm⟩ := in183 x h
  simp only at qx q2 q3 qm; subst qx; subst qm
  unfold mmBox mmNil mmCp at q1
  cases hb : x.dirty with
  | nil =>
    rw [hb] at q1
    simp only [List.map_nil] at q1
    simp only [mm, F183, h183_3, mmBox, mmNil, mmCp, hb, go_sem, seval, bnd_ite, e1, q1, q2, q3, t1, t2, t3, t4, t6, mmO, List.map_nil]
    first | done | rfl
  | cons q qs =>
    rw [hb] at q1 hap hap'
    simp only [List.map_cons, bv, List.length_cons] at q1 hap hap'
    have tq : (qs.map (fun z => AV.bool z)).take qs.length = qs.map (fun z => AV.bool z) := List.take_of_length_le (by simp)
    simp only [mm, F183, h183_3, mmBox, mmNil, mmCp, hb, bv, go_sem, seval, bnd_ite, e1, hap, hap', q1, q2, q3, tq, t1, t2, t3, t4, t6, mmO, List.map_cons, List.length_cons]
    first | done | rfl
end Go.Proofs.Ytaaajjinpppgeaa

/- The code of some functions, as the evaluator reads it (printed by a program of ours), checked against the program. Own work; no condition. -/
set_option linter.unusedVariables false
set_option linter.unusedSimpArgs false
set_option linter.unusedSectionVars false
namespace Go.Proofs.Ytaaajjinpppgeaa
open Go Go.Abs
set_option maxRecDepth 100000
def H146_2 : List Vw := [.tidy [0, 1, 5] [(0, none), (1, none), (5, none)]]
theorem h146_2 (b : Nat) (s : St) : vwL b H146_2 s = vwL b [.tidy [0, 1, 5] [(0, none), (1, none), (5, none)]] s := rfl
def L146_2 : EC := (.seq (.seq (.region [(.op .mv [(.tmp 5)] (some 6) true), (.op .mv [(.tmp 0)] (some 7) true), (.op .len [(.tmp 7)] (some 8) true), (.op (.bin .lss) [(.tmp 6), (.tmp 8)] (some 9) true)] false) (.cond (.tmp 9) .skip (.exit 0))) (.seq (.block 1 (.seq (.region [(.op .mv [(.tmp 0)] (some 12) true), (.op .mv [(.tmp 5)] (some 13) true), (.op .mv [(.tmp 1)] (some 14) true), (.op (.iaddr 11) [(.tmp 12), (.tmp 13)] (some 15) true), (.op (.faddr 0) [(.tmp 15)] (some 16) true), (.op .store1 [(.tmp 16), (.tmp 14)] none true)] false) (.seq (.region [(.op .mv [(.tmp 1)] (some 17) true), (.op (.bin .add) [(.tmp 17), (.const (.int .i64 1))] (some 18) true), (.op .mv [(.tmp 18)] (some 1) true)] false) (.seq (.region [(.op .mv [(.tmp 0)] (some 19) true), (.op .mv [(.tmp 5)] (some 20) true), (.op .mv [(.tmp 1)] (some 21) true), (.op (.iaddr 11) [(.tmp 19), (.tmp 20)] (some 22) true), (.op (.faddr 1) [(.tmp 22)] (some 23) true), (.op .store1 [(.tmp 23), (.tmp 21)] none true)] false) (.seq (.region [(.op .mv [(.tmp 1)] (some 24) true), (.op (.bin .add) [(.tmp 24), (.const (.int .i64 1))] (some 25) true), (.op .mv [(.tmp 25)] (some 1) true)] false) (.seq (.region [(.op .mv [(.tmp 0)] (some 26) true), (.op .mv [(.tmp 5)] (some 27) true), (.op .mv [(.tmp 1)] (some 28) true), (.op (.iaddr 11) [(.tmp 26), (.tmp 27)] (some 29) true), (.op (.faddr 2) [(.tmp 29)] (some 30) true), (.op .store1 [(.tmp 30), (.tmp 28)] none true)] false) (.seq (.region [(.op .mv [(.tmp 1)] (some 31) true), (.op (.bin .add) [(.tmp 31), (.const (.int .i64 1))] (some 32) true), (.op .mv [(.tmp 32)] (some 1) true)] false) (.seq (.region [(.op .mv [(.tmp 0)] (some 33) true), (.op .mv [(.tmp 5)] (some 34) true), (.op .mv [(.tmp 1)] (some 35) true), (.op (.iaddr 11) [(.tmp 33), (.tmp 34)] (some 36) true), (.op (.faddr 3) [(.tmp 36)] (some 37) true), (.op .store1 [(.tmp 37), (.tmp 35)] none true)] false) (.seq (.region [(.op .mv [(.tmp 1)] (some 38) true), (.op (.bin .add) [(.tmp 38), (.const (.int .i64 1))] (some 39) true), (.op .mv [(.tmp 39)] (some 1) true)] false) (.seq (.region [(.op .mv [(.tmp 0)] (some 40) true), (.op .mv [(.tmp 5)] (some 41) true), (.op .mv [(.tmp 1)] (some 42) true), (.op (.iaddr 11) [(.tmp 40), (.tmp 41)] (some 43) true), (.op (.faddr 4) [(.tmp 43)] (some 44) true), (.op .store1 [(.tmp 44), (.tmp 42)] none true)] false) (.seq (.region [(.op .mv [(.tmp 1)] (some 45) true), (.op (.bin .add) [(.tmp 45), (.const (.int .i64 1))] (some 46) true), (.op .mv [(.tmp 46)] (some 1) true)] false) (.seq (.region [(.op .mv [(.tmp 0)] (some 47) true), (.op .mv [(.tmp 5)] (some 48) true), (.op .mv [(.tmp 1)] (some 49) true), (.op (.iaddr 11) [(.tmp 47), (.tmp 48)] (some 50) true), (.op (.faddr 5) [(.tmp 50)] (some 51) true), (.op .store1 [(.tmp 51), (.tmp 49)] none true)] false) (.seq (.region [(.op .mv [(.tmp 1)] (some 52) true), (.op (.bin .add) [(.tmp 52), (.const (.int .i64 1))] (some 53) true), (.op .mv [(.tmp 53)] (some 1) true)] false) (.seq (.region [(.op .mv [(.tmp 0)] (some 54) true), (.op .mv [(.tmp 5)] (some 55) true), (.op .mv [(.tmp 1)] (some 56) true), (.pc (.const (.fn 207 [])) [(.tmp 56)] (some 57) true), (.op (.iaddr 11) [(.tmp 54), (.tmp 55)] (some 58) true), (.op (.faddr 6) [(.tmp 58)] (some 59) true), (.op .store1 [(.tmp 59), (.tmp 57)] none true)] false) (.seq (.region [(.op .mv [(.tmp 1)] (some 60) true), (.op (.bin .add) [(.tmp 60), (.const (.int .i64 1))] (some 61) true), (.op .mv [(.tmp 61)] (some 1) true)] false) (.seq (.region [(.op .mv [(.tmp 0)] (some 62) true), (.op .mv [(.tmp 5)] (some 63) true), (.op .mv [(.tmp 1)] (some 64) true), (.op (.bin .rem) [(.tmp 64), (.const (.int .i64 3))] (some 65) true), (.op (.bin .eql) [(.tmp 65), (.const (.int .i64 0))] (some 66) true), (.op (.iaddr 11) [(.tmp 62), (.tmp 63)] (some 67) true), (.op (.faddr 7) [(.tmp 67)] (some 68) true), (.op .store1 [(.tmp 68), (.tmp 66)] none true)] false) (.seq (.region [(.op .mv [(.tmp 1)] (some 69) true), (.op (.bin .add) [(.tmp 69), (.const (.int .i64 1))] (some 70) true), (.op .mv [(.tmp 70)] (some 1) true)] false) (.seq (.region [(.op .mv [(.tmp 0)] (some 71) true), (.op .mv [(.tmp 5)] (some 72) true), (.op .mv [(.tmp 1)] (some 73) true), (.op (.bin .rem) [(.tmp 73), (.const (.int .i64 3))] (some 74) true), (.op (.bin .eql) [(.tmp 74), (.const (.int .i64 0))] (some 75) true), (.op (.iaddr 11) [(.tmp 71), (.tmp 72)] (some 76) true), (.op (.faddr 8) [(.tmp 76)] (some 77) true), (.op .store1 [(.tmp 77), (.tmp 75)] none true)] false) (.seq (.region [(.op .mv [(.tmp 1)] (some 78) true), (.op (.bin .add) [(.tmp 78), (.const (.int .i64 1))] (some 79) true), (.op .mv [(.tmp 79)] (some 1) true)] false) (.seq (.region [(.op .mv [(.tmp 0)] (some 80) true), (.op .mv [(.tmp 5)] (some 81) true), (.op .mv [(.tmp 1)] (some 82) true), (.op (.iaddr 11) [(.tmp 80), (.tmp 81)] (some 83) true), (.op (.faddr 9) [(.tmp 83)] (some 84) true), (.op .store1 [(.tmp 84), (.tmp 82)] none true)] false) (.seq (.region [(.op .mv [(.tmp 1)] (some 85) true), (.op (.bin .add) [(.tmp 85), (.const (.int .i64 1))] (some 86) true), (.op .mv [(.tmp 86)] (some 1) true)] false) (.view [.opn 0 none (some (5, 0)) 10 1] (.region [(.op .mv [(.tmp 0)] (some 87) true), (.op .mv [(.tmp 5)] (some 88) true), (.op (.iaddr 11) [(.tmp 87), (.tmp 88)] (some 89) true), (.op (.faddr 10) [(.tmp 89)] (some 90) true), (.op .load1 [(.tmp 90)] (some 91) true), (.op .mv [(.tmp 1)] (some 92) true), (.sc (.const (.fn 100 [])) [(.tmp 91), (.tmp 92)] (some 93) true), (.op .mv [(.tmp 93)] (some 1) true)] false))))))))))))))))))))))) (.region [(.op .mv [(.tmp 5)] (some 10) true), (.op (.bin .add) [(.tmp 10), (.const (.int .i64 1))] (some 11) true), (.op .mv [(.tmp 11)] (some 5) true)] false)))
-- laws.markDepS
def F146 : EF := ⟨(.seq (.region [(.op .mv [(.const (.int .i64 0))] (some 4) true)] false) (.seq (.seq (.region [(.op .mv [(.const (.int .i64 0))] (some 5) true)] false) (.block 0 (.loop H146_2 L146_2))) (.seq (.region [(.op .mv [(.tmp 1)] (some 94) true), (.op .mv [(.tmp 94)] (some 4) true)] false) .ret))), [(.tmp 4)], 95, .one, none⟩
theorem t146 : T 146 = some F146 := tab Try.func146 (by kernel_rfl) rfl
def H164_2 : List Vw := [.tidy [0, 1, 5] [(0, none), (1, none), (5, none)]]
theorem h164_2 (b : Nat) (s : St) : vwL b H164_2 s = vwL b [.tidy [0, 1, 5] [(0, none), (1, none), (5, none)]] s := rfl
def L164_2 : EC := (.seq (.seq (.region [(.op .mv [(.tmp 5)] (some 6) true), (.op .mv [(.tmp 0)] (some 7) true), (.op .len [(.tmp 7)] (some 8) true), (.op (.bin .lss) [(.tmp 6), (.tmp 8)] (some 9) true)] false) (.cond (.tmp 9) .skip (.exit 0))) (.seq (.block 1 (.seq (.seq (.region [(.op .mv [(.tmp 0)] (some 12) true), (.op .mv [(.tmp 5)] (some 13) true), (.op (.iaddr 11) [(.tmp 12), (.tmp 13)] (some 14) true), (.op (.faddr 0) [(.tmp 14)] (some 15) true), (.op .load1 [(.tmp 15)] (some 16) true), (.op .mv [(.tmp 1)] (some 17) true), (.op (.bin .neq) [(.tmp 16), (.tmp 17)] (some 18) true)] false) (.cond (.tmp 18) (.seq (.region [(.op .mv [(.const (.int .i64 (-1)))] (some 4) true)] false) .ret) .skip)) (.seq (.region [(.op .mv [(.tmp 1)] (some 19) true), (.op (.bin .add) [(.tmp 19), (.const (.int .i64 1))] (some 20) true), (.op .mv [(.tmp 20)] (some 1) true)] false) (.seq (.seq (.region [(.op .mv [(.tmp 0)] (some 21) true), (.op .mv [(.tmp 5)] (some 22) true), (.op (.iaddr 11) [(.tmp 21), (.tmp 22)] (some 23) true), (.op (.faddr 1) [(.tmp 23)] (some 24) true), (.op .load1 [(.tmp 24)] (some 25) true), (.op .mv [(.tmp 1)] (some 26) true), (.op (.bin .neq) [(.tmp 25), (.tmp 26)] (some 27) true)] false) (.cond (.tmp 27) (.seq (.region [(.op .mv [(.const (.int .i64 (-1)))] (some 4) true)] false) .ret) .skip)) (.seq (.region [(.op .mv [(.tmp 1)] (some 28) true), (.op (.bin .add) [(.tmp 28), (.const (.int .i64 1))] (some 29) true), (.op .mv [(.tmp 29)] (some 1) true)] false) (.seq (.seq (.region [(.op .mv [(.tmp 0)] (some 30) true), (.op .mv [(.tmp 5)] (some 31) true), (.op (.iaddr 11) [(.tmp 30), (.tmp 31)] (some 32) true), (.op (.faddr 2) [(.tmp 32)] (some 33) true), (.op .load1 [(.tmp 33)] (some 34) true), (.op .mv [(.tmp 1)] (some 35) true), (.op (.bin .neq) [(.tmp 34), (.tmp 35)] (some 36) true)] false) (.cond (.tmp 36) (.seq (.region [(.op .mv [(.const (.int .i64 (-1)))] (some 4) true)] false) .ret) .skip)) (.seq (.region [(.op .mv [(.tmp 1)] (some 37) true), (.op (.bin .add) [(.tmp 37), (.const (.int .i64 1))] (some 38) true), (.op .mv [(.tmp 38)] (some 1) true)] false) (.seq (.seq (.region [(.op .mv [(.tmp 0)] (some 39) true), (.op .mv [(.tmp 5)] (some 40) true), (.op (.iaddr 11) [(.tmp 39), (.tmp 40)] (some 41) true), (.op (.faddr 3) [(.tmp 41)] (some 42) true), (.op .load1 [(.tmp 42)] (some 43) true), (.op .mv [(.tmp 1)] (some 44) true), (.op (.bin .neq) [(.tmp 43), (.tmp 44)] (some 45) true)] false) (.cond (.tmp 45) (.seq (.region [(.op .mv [(.const (.int .i64 (-1)))] (some 4) true)] false) .ret) .skip)) (.seq (.region [(.op .mv [(.tmp 1)] (some 46) true), (.op (.bin .add) [(.tmp 46), (.const (.int .i64 1))] (some 47) true), (.op .mv [(.tmp 47)] (some 1) true)] false) (.seq (.seq (.region [(.op .mv [(.tmp 0)] (some 48) true), (.op .mv [(.tmp 5)] (some 49) true), (.op (.iaddr 11) [(.tmp 48), (.tmp 49)] (some 50) true), (.op (.faddr 4) [(.tmp 50)] (some 51) true), (.op .load1 [(.tmp 51)] (some 52) true), (.op .mv [(.tmp 1)] (some 53) true), (.op (.bin .neq) [(.tmp 52), (.tmp 53)] (some 54) true)] false) (.cond (.tmp 54) (.seq (.region [(.op .mv [(.const (.int .i64 (-1)))] (some 4) true)] false) .ret) .skip)) (.seq (.region [(.op .mv [(.tmp 1)] (some 55) true), (.op (.bin .add) [(.tmp 55), (.const (.int .i64 1))] (some 56) true), (.op .mv [(.tmp 56)] (some 1) true)] false) (.seq (.seq (.region [(.op .mv [(.tmp 0)] (some 57) true), (.op .mv [(.tmp 5)] (some 58) true), (.op (.iaddr 11) [(.tmp 57), (.tmp 58)] (some 59) true), (.op (.faddr 5) [(.tmp 59)] (some 60) true), (.op .load1 [(.tmp 60)] (some 61) true), (.op .mv [(.tmp 1)] (some 62) true), (.op (.bin .neq) [(.tmp 61), (.tmp 62)] (some 63) true)] false) (.cond (.tmp 63) (.seq (.region [(.op .mv [(.const (.int .i64 (-1)))] (some 4) true)] false) .ret) .skip)) (.seq (.region [(.op .mv [(.tmp 1)] (some 64) true), (.op (.bin .add) [(.tmp 64), (.const (.int .i64 1))] (some 65) true), (.op .mv [(.tmp 65)] (some 1) true)] false) (.seq (.seq (.region [(.op .mv [(.tmp 0)] (some 66) false), (.op .mv [(.tmp 5)] (some 67) false), (.op (.iaddr 11) [(.tmp 66), (.tmp 67)] (some 68) false), (.op (.faddr 6) [(.tmp 68)] (some 69) false), (.op .load1 [(.tmp 69)] (some 70) false), (.op .mv [(.tmp 1)] (some 71) false), (.pc (.const (.fn 207 [])) [(.tmp 71)] (some 72) false), (.op (.bin .neq) [(.tmp 70), (.tmp 72)] (some 73) true)] true) (.cond (.tmp 73) (.seq (.region [(.op .mv [(.const (.int .i64 (-1)))] (some 4) true)] false) .ret) .skip)) (.seq (.region [(.op .mv [(.tmp 1)] (some 74) true), (.op (.bin .add) [(.tmp 74), (.const (.int .i64 1))] (some 75) true), (.op .mv [(.tmp 75)] (some 1) true)] false) (.seq (.seq (.region [(.op .mv [(.tmp 0)] (some 76) true), (.op .mv [(.tmp 5)] (some 77) true), (.op (.iaddr 11) [(.tmp 76), (.tmp 77)] (some 78) true), (.op (.faddr 7) [(.tmp 78)] (some 79) true), (.op .load1 [(.tmp 79)] (some 80) true), (.op .mv [(.tmp 1)] (some 81) true), (.op (.bin .rem) [(.tmp 81), (.const (.int .i64 3))] (some 82) true), (.op (.bin .eql) [(.tmp 82), (.const (.int .i64 0))] (some 83) true), (.op (.binB true) [(.tmp 80), (.tmp 83)] (some 84) true)] false) (.cond (.tmp 84) (.seq (.region [(.op .mv [(.const (.int .i64 (-1)))] (some 4) true)] false) .ret) .skip)) (.seq (.region [(.op .mv [(.tmp 1)] (some 85) true), (.op (.bin .add) [(.tmp 85), (.const (.int .i64 1))] (some 86) true), (.op .mv [(.tmp 86)] (some 1) true)] false) (.seq (.seq (.region [(.op .mv [(.tmp 0)] (some 87) true), (.op .mv [(.tmp 5)] (some 88) true), (.op (.iaddr 11) [(.tmp 87), (.tmp 88)] (some 89) true), (.op (.faddr 8) [(.tmp 89)] (some 90) true), (.op .load1 [(.tmp 90)] (some 91) true), (.op .mv [(.tmp 1)] (some 92) true), (.op (.bin .rem) [(.tmp 92), (.const (.int .i64 3))] (some 93) true), (.op (.bin .eql) [(.tmp 93), (.const (.int .i64 0))] (some 94) true), (.op (.binB true) [(.tmp 91), (.tmp 94)] (some 95) true)] false) (.cond (.tmp 95) (.seq (.region [(.op .mv [(.const (.int .i64 (-1)))] (some 4) true)] false) .ret) .skip)) (.seq (.region [(.op .mv [(.tmp 1)] (some 96) true), (.op (.bin .add) [(.tmp 96), (.const (.int .i64 1))] (some 97) true), (.op .mv [(.tmp 97)] (some 1) true)] false) (.seq (.seq (.region [(.op .mv [(.tmp 0)] (some 98) true), (.op .mv [(.tmp 5)] (some 99) true), (.op (.iaddr 11) [(.tmp 98), (.tmp 99)] (some 100) true), (.op (.faddr 9) [(.tmp 100)] (some 101) true), (.op .load1 [(.tmp 101)] (some 102) true), (.op .mv [(.tmp 1)] (some 103) true), (.op (.bin .neq) [(.tmp 102), (.tmp 103)] (some 104) true)] false) (.cond (.tmp 104) (.seq (.region [(.op .mv [(.const (.int .i64 (-1)))] (some 4) true)] false) .ret) .skip)) (.seq (.region [(.op .mv [(.tmp 1)] (some 105) true), (.op (.bin .add) [(.tmp 105), (.const (.int .i64 1))] (some 106) true), (.op .mv [(.tmp 106)] (some 1) true)] false) (.seq (.region [(.op .mv [(.tmp 0)] (some 107) true), (.op .mv [(.tmp 5)] (some 108) true), (.op (.iaddr 11) [(.tmp 107), (.tmp 108)] (some 109) true), (.op (.faddr 10) [(.tmp 109)] (some 110) true), (.op .load1 [(.tmp 110)] (some 111) true), (.op .mv [(.tmp 1)] (some 112) true), (.pc (.const (.fn 101 [])) [(.tmp 111), (.tmp 112)] (some 113) true), (.op .mv [(.tmp 113)] (some 1) true)] false) (.seq (.region [(.op .mv [(.tmp 1)] (some 114) true), (.op (.bin .lss) [(.tmp 114), (.const (.int .i64 0))] (some 115) true)] false) (.cond (.tmp 115) (.seq (.region [(.op .mv [(.const (.int .i64 (-1)))] (some 4) true)] false) .ret) .skip)))))))))))))))))))))))) (.region [(.op .mv [(.tmp 5)] (some 10) true), (.op (.bin .add) [(.tmp 10), (.const (.int .i64 1))] (some 11) true), (.op .mv [(.tmp 11)] (some 5) true)] false)))
-- laws.heldDepS
def F164 : EF := ⟨(.seq (.region [(.op .mv [(.const (.int .i64 0))] (some 4) true)] false) (.seq (.seq (.region [(.op .mv [(.const (.int .i64 0))] (some 5) true)] false) (.block 0 (.loop H164_2 L164_2))) (.seq (.region [(.op .mv [(.tmp 1)] (some 116) true), (.op .mv [(.tmp 116)] (some 4) true)] false) .ret))), [(.tmp 4)], 117, .one, none⟩
theorem t164 : T 164 = some F164 := tab Try.func164 (by kernel_rfl) rfl
-- laws.markMem
def F51 : EF := ⟨(.seq (.region [(.op (.box 7) [(.tmp 0)] (some 2) true), (.op .mv [(.const (.int .i64 0))] (some 4) true)] false) (.seq (.region [(.op (.faddr 0) [(.tmp 2)] (some 5) true), (.op (.loadN 4) [(.tmp 5)] (some 6) true), (.op .mv [(.tmp 1)] (some 7) true), (.sc (.const (.fn 63 [])) [(.tmp 6), (.tmp 7)] (some 8) true), (.op .mv [(.tmp 8)] (some 1) true)] false) (.seq (.region [(.op (.faddr 4) [(.tmp 2)] (some 9) true), (.op .load1 [(.tmp 9)] (some 10) true), (.op .mv [(.tmp 1)] (some 11) true), (.sc (.const (.fn 145 [])) [(.tmp 10), (.tmp 11)] (some 12) true), (.op .mv [(.tmp 12)] (some 1) true)] false) (.seq (.region [(.op (.faddr 5) [(.tmp 2)] (some 13) true), (.op .load1 [(.tmp 13)] (some 14) true), (.op .mv [(.tmp 1)] (some 15) true), (.sc (.const (.fn 146 [])) [(.tmp 14), (.tmp 15)] (some 16) true), (.op .mv [(.tmp 16)] (some 1) true)] false) (.seq (.region [(.op .mv [(.tmp 1)] (some 17) true), (.op .mv [(.tmp 17)] (some 4) true)] false) .ret))))), [(.tmp 4)], 18, .one, none⟩
theorem t51 : T 51 = some F51 := tab Try.func51 (by kernel_rfl) rfl
-- laws.heldMem
def F64 : EF := ⟨(.seq (.region [(.op (.box 7) [(.tmp 0)] (some 2) true), (.op .mv [(.const (.int .i64 0))] (some 4) true)] false) (.seq (.region [(.op (.faddr 0) [(.tmp 2)] (some 5) true), (.op (.loadN 4) [(.tmp 5)] (some 6) true), (.op .mv [(.tmp 1)] (some 7) true), (.pc (.const (.fn 67 [])) [(.tmp 6), (.tmp 7)] (some 8) true), (.op .mv [(.tmp 8)] (some 1) true)] false) (.seq (.seq (.region [(.op .mv [(.tmp 1)] (some 9) true), (.op (.bin .lss) [(.tmp 9), (.const (.int .i64 0))] (some 10) true)] false) (.cond (.tmp 10) (.seq (.region [(.op .mv [(.const (.int .i64 (-1)))] (some 4) true)] false) .ret) .skip)) (.seq (.region [(.op (.faddr 4) [(.tmp 2)] (some 11) true), (.op .load1 [(.tmp 11)] (some 12) true), (.op .mv [(.tmp 1)] (some 13) true), (.pc (.const (.fn 163 [])) [(.tmp 12), (.tmp 13)] (some 14) true), (.op .mv [(.tmp 14)] (some 1) true)] false) (.seq (.seq (.region [(.op .mv [(.tmp 1)] (some 15) true), (.op (.bin .lss) [(.tmp 15), (.const (.int .i64 0))] (some 16) true)] false) (.cond (.tmp 16) (.seq (.region [(.op .mv [(.const (.int .i64 (-1)))] (some 4) true)] false) .ret) .skip)) (.seq (.region [(.op (.faddr 5) [(.tmp 2)] (some 17) true), (.op .load1 [(.tmp 17)] (some 18) true), (.op .mv [(.tmp 1)] (some 19) true), (.pc (.const (.fn 164 [])) [(.tmp 18), (.tmp 19)] (some 20) true), (.op .mv [(.tmp 20)] (some 1) true)] false) (.seq (.seq (.region [(.op .mv [(.tmp 1)] (some 21) true), (.op (.bin .lss) [(.tmp 21), (.const (.int .i64 0))] (some 22) true)] false) (.cond (.tmp 22) (.seq (.region [(.op .mv [(.const (.int .i64 (-1)))] (some 4) true)] false) .ret) .skip)) (.seq (.region [(.op .mv [(.tmp 1)] (some 23) true), (.op .mv [(.tmp 23)] (some 4) true)] false) .ret)))))))), [(.tmp 4)], 24, .one, none⟩
theorem t64 : T 64 = some F64 := tab Try.func64 (by kernel_rfl) rfl
end Go.Proofs.Ytaaajjinpppgeaa

