/- Part 4 of the texts of a claim, joined by a program of ours (A4). No condition. -/
import Derived.Test.YtaaajjinpppgeaaP27ac
import Derived.Laws.Small
import Derived.Laws.Strings
import Derived.Carry
import Derived.ChangeSame
set_option linter.unusedVariables false
set_option linter.unusedSimpArgs false
set_option linter.unusedSectionVars false
namespace Go.Abs
open Go Go.RowKit
def CLe (c c' : CallF) : Prop := ∀ f a m v, c f a m = some v → c' f a m = some v
theorem strict_mono {α β : Type} {f : Option α → Option β} (hf : f none = none) {a a' : Option α} (h : ∀ v, a = some v → a' = some v) {r : β} (hr : f a = some r) : f a' = some r := by
  cases a with
  | none => rw [hf] at hr; cases hr
  | some v => rw [h v rfl]; exact hr
theorem bnd_mono {α β : Type} {a a' : Option α} {f f' : α → Option β} (h : ∀ v, a = some v → a' = some v) (hf : ∀ x v, f x = some v → f' x = some v) {r : β} (hr : bnd a f = some r) : bnd a' f' = some r := by
  obtain ⟨x, h1, h2⟩ := bnd_eq hr
  rw [h x h1]; exact hf x r h2
theorem pcOut_none (mem : Mem) (l : Bool) : pcOut mem l none = none := rfl
theorem pcE_mono {c c' : CallF} (h : CLe c c') {mem : Mem} {args : List AV} {g : AV} {v : AV × Option Mem} (hv : pcE c mem args g = some v) : pcE c' mem args g = some v := by
  unfold pcE at hv ⊢
  split at hv
  · split at hv
    · rw [if_pos (by assumption)]
      unfold pcF at hv ⊢
      split at hv
      · rw [if_pos (by assumption)]
        exact strict_mono (pcOut_none _ _) (fun v hv => h _ _ _ v hv) hv
      · rw [if_neg (by assumption)]
        split at hv
        · rw [if_pos (by assumption)]
          exact strict_mono (pcOut_none _ _) (fun v hv => h _ _ _ v hv) hv
        · cases hv
    · cases hv
  · cases hv
theorem scOut_none (mem : Mem) (ks : List Nat) : scOut mem ks none = none := rfl
theorem scE_mono {c c' : CallF} (h : CLe c c') {mem : Mem} {args : List AV} {g : AV} {v : AV × Option Mem} (hv : scE c mem args g = some v) : scE c' mem args g = some v := by
  unfold scE at hv ⊢
  split at hv
  · split at hv
    · rw [if_pos (by assumption)]
      unfold scF scK at hv ⊢
      split at hv
      · rw [if_pos (by assumption)]
        rename_i f caps _ _
        generalize lendR mem (dedupN [] (idsL idU (args ++ caps))) = o at hv ⊢
        cases o with
        | none => exact strict_mono (f := xOut mem) rfl (fun v hv => h _ _ _ v hv) (show xOut mem _ = some v from hv)
        | some small => exact strict_mono (scOut_none _ _) (fun v hv => h _ _ _ v hv) (show scOut mem _ _ = some v from hv)
      · cases hv
    · cases hv
  · cases hv
theorem qcOut_none : qcOut none = none := rfl
theorem qcE_mono {c c' : CallF} (h : CLe c c') {mem : Mem} {args : List AV} {g : AV} {v : AV × Option Mem} (hv : qcE c mem args g = some v) : qcE c' mem args g = some v := by
  unfold qcE at hv ⊢
  split at hv
  · split at hv
    · rename_i hd
      rw [if_pos hd]
      exact strict_mono qcOut_none (fun v hv => h _ _ _ v hv) hv
    · cases hv
  · cases hv
mutual
theorem evI_mono {c c' : CallF} (h : CLe c c') {q : Bool} : ∀ (x : EI) {s r : St}, evI c q x s = some r → evI c' q x s = some r := by
  intro x s r hr
  match x with
  | .op k os dst solo => simp only [evI] at hr ⊢; exact hr
  | .pc g os dst solo => simp only [evI] at hr ⊢; exact bnd_mono (fun v hv => pcE_mono h hv) (fun _ _ h => h) hr
  | .sc g os dst solo =>
    simp only [evI] at hr ⊢
    refine bnd_mono (fun v hv => ?_) (fun _ _ h => h) hr
    split at hv
    · rw [if_pos (by assumption)]; exact scE_mono h hv
    · rw [if_neg (by assumption)]; exact qcE_mono h hv
  | .grp t want G y dst solo =>
    simp only [evI] at hr ⊢
    refine bnd_mono (fun _ h => h) (fun b v hb => bnd_mono (fun u hu => ?_) (fun _ _ h => h) hb) hr
    split at hu
    · rw [if_pos (by assumption)]
      exact bnd_mono (fun w hw => evR_mono h G hw) (fun _ _ h => h) hu
    · rw [if_neg (by assumption)]; exact hu
  | .grw t want G y dst solo =>
    simp only [evI] at hr ⊢
    refine bnd_mono (fun _ h => h) (fun b v hb => ?_) hr
    split at hb
    · rw [if_pos (by assumption)]
      exact bnd_mono (fun w hw => evR_mono h G hw) (fun _ _ h => h) hb
    · rw [if_neg (by assumption)]; exact hb
theorem evR_mono {c c' : CallF} (h : CLe c c') {q : Bool} : ∀ (l : List EI) {s r : St}, evR c q l s = some r → evR c' q l s = some r := by
  intro l s r hr
  match l with
  | [] => exact hr
  | x :: xs =>
    simp only [evR] at hr ⊢
    exact bnd_mono (fun v hv => evI_mono h x hv) (fun s v hv => evR_mono h xs hv) hr
end
theorem nxt_mono {f f' : St → Option (AX × St)} (h : ∀ s v, f s = some v → f' s = some v) : ∀ (r v : AX × St), nxt f r = some v → nxt f' r = some v := by
  rintro ⟨x, s⟩ v hv
  cases x with
  | normal => exact h s v hv
  | _ => exact hv
theorem iterL_mono {g g' : St → Option (AX × St)} (h : ∀ s v, g s = some v → g' s = some v) : ∀ {n n' : Nat} {s : St} {v : AX × St}, n ≤ n' → iterL g n s = some v → iterL g' n' s = some v := by
  intro n
  induction n with
  | zero => intro n' s v _ hv; simp [iterL] at hv
  | succ n ih =>
    intro n' s v hn hv
    obtain ⟨k, rfl⟩ : ∃ k, n' = k + 1 := ⟨n' - 1, by omega⟩
    simp only [iterL] at hv ⊢
    exact bnd_mono (fun v hv => h s v hv) (nxt_mono (fun s v hv => ih (by omega) hv)) hv
theorem cnd_mono {t : Option Bool} {x x' y y' : Option (AX × St)} (h1 : ∀ v, x = some v → x' = some v) (h2 : ∀ v, y = some v → y' = some v) {v : AX × St} (h : cnd t x y = some v) : cnd t x' y' = some v := by
  cases t with
  | none => cases h
  | some b => cases b <;> simp only [cnd, if_true, Bool.false_eq_true, if_false] at h ⊢ <;> first | exact h1 v h | exact h2 v h
theorem evC_mono {c c' : CallF} (h : CLe c c') {b n n' : Nat} (hn : n ≤ n') : ∀ (ec : EC) {s : St} {v : AX × St}, evC c b n ec s = some v → evC c' b n' ec s = some v := by
  intro ec
  induction ec with
  | skip => intro s v h; exact h
  | exit id => intro s v h; exact h
  | ret => intro s v h; exact h
  | region l d => intro s v hv; simp only [evC] at hv ⊢; exact bnd_mono (fun v hv => evR_mono h l hv) (fun _ _ h => h) hv
  | regL l js is => intro s v hv; simp only [evC] at hv ⊢; exact bnd_mono (fun v hv => evR_mono h l hv) (fun _ _ h => h) hv
  | seq x y ihx ihy => intro s v hv; simp only [evC] at hv ⊢; exact bnd_mono (fun v hv => ihx hv) (nxt_mono (fun s v hv => ihy hv)) hv
  | cond o x y ihx ihy => intro s v hv; simp only [evC] at hv ⊢; exact cnd_mono (fun v hv => ihx hv) (fun v hv => ihy hv) hv
  | block id x ih => intro s v hv; simp only [evC] at hv ⊢; exact bnd_mono (fun v hv => ih hv) (fun _ _ h => h) hv
  | loop hd x ih =>
    intro s v hv
    simp only [evC] at hv ⊢
    exact bnd_mono (fun _ h => h) (fun s v hv => iterL_mono (fun s v hv => bnd_mono (fun v hv => ih hv) (fun _ _ h => h) hv) hn hv) hv
  | view w x ih => intro s v hv; simp only [evC] at hv ⊢; exact bnd_mono (fun _ h => h) (fun s v hv => ih hv) hv
theorem finW_none (w : Wd) : finW w none = none := rfl
theorem finW_some (w : Wd) (v : AV) (m : Mem) : finW w (some (v, m)) = some (wid w v, m) := rfl
theorem finW_one (r : Option (AV × Mem)) : finW .one r = r := by cases r <;> rfl
theorem finW_ite {c : Prop} [Decidable c] (w : Wd) (a b : Option (AV × Mem)) : finW w (if c then a else b) = if c then finW w a else finW w b := by split <;> rfl
theorem runB_mono {c c' : CallF} (h : CLe c c') {n n' : Nat} (hn : n ≤ n') {F : EF} {a : List AV} {m : Mem} {v : AV × Mem} (hv : runB c n F a m = some v) : runB c' n' F a m = some v := by
  unfold runB at hv ⊢
  split at hv
  · rw [if_pos (by assumption)]
    exact bnd_mono (fun v hv => evC_mono h hn _ hv) (fun _ _ h => h) hv
  · cases hv
theorem runF_mono (T : FuncId → Option EF) : ∀ n, CLe (runF T n) (runF T (n + 1)) := by
  intro n
  induction n with
  | zero => intro f a m v h; simp [runF] at h
  | succ n ih =>
    intro f a m v h
    obtain ⟨F, hF, h⟩ := runF_at h
    have e : runF T (n + 1 + 1) f a m = orcE (finW F.ful (runB (runF T (n + 1)) (n + 1) F a m)) a m F.orc := by rw [runF]; simp only [hF]
    rw [e]
    cases ho : F.orc with
    | none =>
      rw [ho] at h
      exact strict_mono (f := finW F.ful) rfl (fun v hv => runB_mono ih (Nat.le_succ _) hv) (show finW F.ful _ = some v from h)
    | some g => rw [ho] at h; exact h
section
variable (T : FuncId → Option EF)
noncomputable def E : CallF := fun f args mem => lim (fun n => runF T n f args mem)
noncomputable def XR (q : Bool) (l : List EI) (s : St) : Option St := lim (fun n => evR (runF T n) q l s)
noncomputable def XI (q : Bool) (x : EI) (s : St) : Option St := lim (fun n => evI (runF T n) q x s)
noncomputable def X (b : Nat) (ec : EC) (s : St) : Option (AX × St) := lim (fun n => evC (runF T n) b n ec s)
def headK (b : Nat) (hd : List Vw) (s : St) : Option (AX × St) := bnd (vwL b hd s) fun s => some (.normal, s)
noncomputable def XG (b : Nat) (hd : List Vw) (a : EC) (s : St) : Option (AX × St) := bnd (X T b a s) (nxt (headK b hd))
noncomputable def XL (b : Nat) (hd : List Vw) (a : EC) (s : St) : Option (AX × St) :=
  lim (fun n => iterL (fun s => bnd (evC (runF T n) b n a s) (nxt fun s => bnd (vwL b hd s) fun s => some (.normal, s))) n s)
theorem E_mono (f : FuncId) (args : List AV) (mem : Mem) : Mono (fun n => runF T n f args mem) := fun n v h => runF_mono T n f args mem v h
theorem XR_mono (q : Bool) (l : List EI) (s : St) : Mono (fun n => evR (runF T n) q l s) := fun n v h => evR_mono (runF_mono T n) l h
theorem XI_mono (q : Bool) (x : EI) (s : St) : Mono (fun n => evI (runF T n) q x s) := fun n v h => evI_mono (runF_mono T n) x h
theorem X_mono (b : Nat) (ec : EC) (s : St) : Mono (fun n => evC (runF T n) b n ec s) := fun n v h => evC_mono (runF_mono T n) (Nat.le_succ n) ec h
theorem lim_strict {α β : Type} {f : Option α → Option β} (hf : f none = none) {A : Nat → Option α} (ha : Mono A) : lim (fun n => f (A n)) = f (lim A) := by
  have hm : Mono (fun n => f (A n)) := fun n v h => strict_mono hf (fun u hu => ha n u hu) h
  cases e : lim A with
  | some v =>
    obtain ⟨n, hn⟩ := lim_some e
    cases hf' : f (some v) with
    | some r => exact lim_eq hm (n := n) (by rw [hn]; exact hf')
    | none =>
      cases e' : lim (fun n => f (A n)) with
      | none => rfl
      | some u =>
        obtain ⟨k, hk⟩ := lim_some e'
        cases hak : A k with
        | none => rw [hak, hf] at hk; cases hk
        | some x =>
          rw [lim_eq ha hak] at e; cases e
          rw [hak, hf'] at hk; cases hk
  | none =>
    rw [hf]
    cases e' : lim (fun n => f (A n)) with
    | none => rfl
    | some u =>
      obtain ⟨k, hk⟩ := lim_some e'
      cases hak : A k with
      | none => rw [hak, hf] at hk; cases hk
      | some x => rw [lim_eq ha hak] at e; cases e
theorem lim_bndc {α β : Type} {A : Nat → Option α} {f : α → Option β} (ha : Mono A) : lim (fun n => bnd (A n) f) = bnd (lim A) f := lim_strict (f := fun a => bnd a f) rfl ha
variable {T}
theorem E_eqW {f : FuncId} {F : EF} (hF : T f = some F) {args : List AV} {mem : Mem} (hN : args.length ≤ F.ntmps) (ho : F.orc = none := by rfl) : E T f args mem = finW F.ful (bnd (X T mem.length F.body ⟨enumA 0 args, mem⟩) (finE mem.length F.results)) := by
  unfold E X
  rw [← lim_shift (E_mono T f args mem)]
  have e : ∀ n, runF T (n + 1) f args mem = finW F.ful (bnd (evC (runF T n) mem.length n F.body ⟨enumA 0 args, mem⟩) (finE mem.length F.results)) := fun n => by
    rw [runF]; simp only [hF, ho, orcE, runB]; rw [if_pos hN]
  simp only [e]
  refine (lim_strict (f := finW F.ful) (finW_none F.ful) (A := fun n => bnd (evC (runF T n) mem.length n F.body ⟨enumA 0 args, mem⟩) (finE mem.length F.results)) (.bnd (X_mono T _ _ _) (fun _ => .const _))).trans ?_
  rw [lim_bndc (X_mono T _ _ _)]
theorem E_eq {f : FuncId} {F : EF} (hF : T f = some F) {args : List AV} {mem : Mem} (hN : args.length ≤ F.ntmps) (ho : F.orc = none := by rfl) (hw : F.ful = .one := by rfl) : E T f args mem = bnd (X T mem.length F.body ⟨enumA 0 args, mem⟩) (finE mem.length F.results) := by
  rw [E_eqW hF hN ho, hw, finW_one]
theorem E_orc {f : FuncId} {F : EF} {g : List AV → Mem → Option (AV × Mem)} (hF : T f = some F) (ho : F.orc = some g) {args : List AV} {mem : Mem} : E T f args mem = g args mem := by
  unfold E
  rw [← lim_shift (E_mono T f args mem)]
  have e : ∀ n, runF T (n + 1) f args mem = g args mem := fun n => by
    rw [runF]; simp only [hF, ho, orcE]
  simp only [e]
  exact lim_const _
theorem XR_nil {q : Bool} {s : St} : XR T q [] s = some s := lim_const _
theorem XR_cons {q : Bool} {x : EI} {xs : List EI} {s : St} : XR T q (x :: xs) s = bnd (XI T q x s) (XR T q xs) := by
  unfold XR XI
  have e : ∀ n, evR (runF T n) q (x :: xs) s = bnd (evI (runF T n) q x s) (evR (runF T n) q xs) := fun n => by rw [evR]
  simp only [e]
  rw [lim_bnd (XI_mono T q x s) (fun s => XR_mono T q xs s)]
theorem XI_op {q : Bool} {k : K} {os : List Opd} {dst : Option Nat} {solo : Bool} {s : St} : XI T q (.op k os dst solo) s = bnd (opX s.mem solo k (os.map (getOpd s.get))) (stp q s dst) := by
  unfold XI
  have e : ∀ n, evI (runF T n) q (.op k os dst solo) s = bnd (opX s.mem solo k (os.map (getOpd s.get))) (stp q s dst) := fun n => by rw [evI]
  simp only [e]; exact lim_const _
theorem pcE_lim {mem : Mem} {args : List AV} {g : AV} : lim (fun n => pcE (runF T n) mem args g) = pcE (E T) mem args g := by
  cases g with
  | fn f caps =>
    simp only [pcE]
    split
    · simp only [pcF]
      split
      · exact lim_strict (pcOut_none _ _) (E_mono T _ _ _)
      · split
        · exact lim_strict (pcOut_none _ _) (E_mono T _ _ _)
        · exact lim_const _
    · exact lim_const _
  | _ => exact lim_const _
theorem XI_pc {q : Bool} {g : Opd} {os : List Opd} {dst : Option Nat} {solo : Bool} {s : St} : XI T q (.pc g os dst solo) s = bnd (pcE (E T) s.mem (os.map (getOpd s.get)) (getOpd s.get g)) (stp q s dst) := by
  unfold XI
  have e : ∀ n, evI (runF T n) q (.pc g os dst solo) s = bnd (pcE (runF T n) s.mem (os.map (getOpd s.get)) (getOpd s.get g)) (stp q s dst) := fun n => by rw [evI]
  simp only [e]
  rw [lim_bndc (fun n v h => pcE_mono (runF_mono T n) h), pcE_lim]
theorem scE_lim {T : FuncId → Option EF} {mem : Mem} {args : List AV} {g : AV} : lim (fun n => scE (runF T n) mem args g) = scE (E T) mem args g := by
  cases g with
  | fn f caps =>
    show lim (fun n => if args.all isDef = true then scF (runF T n) mem f (args ++ caps) else none) = if args.all isDef = true then scF (E T) mem f (args ++ caps) else none
    by_cases h : args.all isDef = true
    · simp only [h, if_true]
      unfold scF scK
      by_cases h2 : nodupNat (dedupN [] (idsL idU (args ++ caps))) = true
      · simp only [h2, if_true]
        cases lendR mem (dedupN [] (idsL idU (args ++ caps))) with
        | none => exact lim_strict (f := xOut mem) rfl (E_mono T f _ mem)
        | some small => exact lim_strict (scOut_none _ _) (E_mono T f _ small)
      · simp only [h2, if_false, Bool.false_eq_true]; exact lim_const _
    · simp only [h, if_false, Bool.false_eq_true]; exact lim_const _
  | _ => exact lim_const _
theorem XI_sc {q : Bool} {g : Opd} {os : List Opd} {dst : Option Nat} {s : St} : XI T q (.sc g os dst true) s = bnd (scE (E T) s.mem (os.map (getOpd s.get)) (getOpd s.get g)) (stp q s dst) := by
  unfold XI
  have e : ∀ n, evI (runF T n) q (.sc g os dst true) s = bnd (scE (runF T n) s.mem (os.map (getOpd s.get)) (getOpd s.get g)) (stp q s dst) := fun n => by rw [evI, if_pos rfl]
  simp only [e]
  rw [lim_bndc (fun n v h => scE_mono (runF_mono T n) h), scE_lim]
theorem qcE_lim {T : FuncId → Option EF} {mem : Mem} {args : List AV} {g : AV} : lim (fun n => qcE (runF T n) mem args g) = qcE (E T) mem args g := by
  cases g with
  | fn f caps =>
    simp only [qcE]
    by_cases hd : args.all isDef = true
    · simp only [if_pos hd]
      exact lim_strict qcOut_none (E_mono T f _ (none :: mem))
    · simp only [if_neg hd]; exact lim_const _
  | _ => exact lim_const _
theorem XI_scq {q : Bool} {g : Opd} {os : List Opd} {dst : Option Nat} {s : St} : XI T q (.sc g os dst false) s = bnd (qcE (E T) s.mem (os.map (getOpd s.get)) (getOpd s.get g)) (stp q s dst) := by
  unfold XI
  have e : ∀ n, evI (runF T n) q (.sc g os dst false) s = bnd (qcE (runF T n) s.mem (os.map (getOpd s.get)) (getOpd s.get g)) (stp q s dst) := fun n => by rw [evI, if_neg Bool.false_ne_true]
  simp only [e]
  rw [lim_bndc (fun n v h => qcE_mono (runF_mono T n) h), qcE_lim]
theorem lim_if {α : Type} {c : Prop} [Decidable c] {A B : Nat → Option α} : lim (fun n => if c then A n else B n) = if c then lim A else lim B := by
  by_cases h : c <;> simp [h]
theorem Mono.ite {α : Type} {c : Prop} [Decidable c] {A B : Nat → Option α} (ha : Mono A) (hb : Mono B) : Mono (fun n => if c then A n else B n) := by
  by_cases h : c <;> simp only [h, if_true, if_false] <;> assumption
theorem XI_grp {q : Bool} {t : Nat} {want : Bool} {G : List EI} {x dst : Nat} {solo : Bool} {s : St} : XI T q (.grp t want G x dst solo) s =
    bnd (isBool (s.get t)) fun b => bnd (if b = want then bnd (XR T true G s) (fun s1 => boolOf (s1.get x)) else some (!want)) fun v => some (hide s (dstsL none G) dst v) := by
  unfold XI
  have e : ∀ n, evI (runF T n) q (.grp t want G x dst solo) s = bnd (isBool (s.get t)) fun b => bnd (if b = want then bnd (evR (runF T n) true G s) (fun s1 => boolOf (s1.get x)) else some (!want)) fun v => some (hide s (dstsL none G) dst v) := fun n => by rw [evI]
  simp only [e]
  have m1 : ∀ b : Bool, Mono (fun n => if b = want then bnd (evR (runF T n) true G s) (fun s1 => boolOf (s1.get x)) else some (!want)) := fun b => .ite (.bnd (XR_mono T true G s) (fun _ => .const _)) (.const _)
  rw [lim_bnd (A := fun _ => isBool (s.get t)) (B := fun n b => bnd (if b = want then bnd (evR (runF T n) true G s) (fun s1 => boolOf (s1.get x)) else some (!want)) fun v => some (hide s (dstsL none G) dst v)) (Mono.const _) (fun b => .bnd (m1 b) (fun _ => .const _)), lim_const]
  congr 1; funext b
  rw [lim_bndc (m1 b), lim_if, lim_const, lim_bndc (XR_mono T true G s)]
  rfl
theorem XI_grw {q : Bool} {t : Nat} {want : Bool} {G : List EI} {x dst : Nat} {solo : Bool} {s : St} : XI T q (.grw t want G x dst solo) s =
    bnd (isBool (s.get t)) fun b => if b = want then bnd (XR T q G s) (fun s1 => bnd (boolOf (s1.get x)) fun v => some (hide ⟨s.env, s1.mem⟩ (dstsL none G) dst v)) else some (hide s (dstsL none G) dst (!want)) := by
  unfold XI
  have e : ∀ n, evI (runF T n) q (.grw t want G x dst solo) s = bnd (isBool (s.get t)) fun b => if b = want then bnd (evR (runF T n) q G s) (fun s1 => bnd (boolOf (s1.get x)) fun v => some (hide ⟨s.env, s1.mem⟩ (dstsL none G) dst v)) else some (hide s (dstsL none G) dst (!want)) := fun n => by rw [evI]
  simp only [e]
  have m1 : ∀ b : Bool, Mono (fun n => if b = want then bnd (evR (runF T n) q G s) (fun s1 => bnd (boolOf (s1.get x)) fun v => some (hide ⟨s.env, s1.mem⟩ (dstsL none G) dst v)) else some (hide s (dstsL none G) dst (!want))) := fun b => .ite (.bnd (XR_mono T q G s) (fun _ => .const _)) (.const _)
  rw [lim_bnd (A := fun _ => isBool (s.get t)) (B := fun n b => if b = want then bnd (evR (runF T n) q G s) (fun s1 => bnd (boolOf (s1.get x)) fun v => some (hide ⟨s.env, s1.mem⟩ (dstsL none G) dst v)) else some (hide s (dstsL none G) dst (!want))) (Mono.const _) (fun b => m1 b), lim_const]
  congr 1; funext b
  rw [lim_if, lim_const, lim_bndc (XR_mono T q G s)]
  rfl
variable {b : Nat}
theorem X_skip {s : St} : X T b .skip s = some (.normal, s) := lim_const _
theorem X_exit {id : Nat} {s : St} : X T b (.exit id) s = some (.exit id, s) := lim_const _
theorem X_ret {s : St} : X T b .ret s = some (.ret, s) := lim_const _
theorem X_region {l : List EI} {d : Bool} {s : St} : X T b (.region l d) s = bnd (XR T false l s) fun s => some (.normal, s) := by
  unfold X
  have e : ∀ n, evC (runF T n) b n (.region l d) s = bnd (evR (runF T n) false l s) fun s => some (.normal, s) := fun n => by rw [evC]
  simp only [e]
  exact lim_bndc (XR_mono T false l s)
theorem X_regL {l : List EI} {js is : List Nat} {s : St} : X T b (.regL l js is) s = bnd (XR T false l s) (lkE s.mem.length js is) := by
  unfold X
  have e : ∀ n, evC (runF T n) b n (.regL l js is) s = bnd (evR (runF T n) false l s) (lkE s.mem.length js is) := fun n => by rw [evC]
  simp only [e]
  exact lim_bndc (XR_mono T false l s)
theorem nxt_lim {A : Nat → St → Option (AX × St)} (r : AX × St) : lim (fun n => nxt (A n) r) = nxt (fun s => lim (fun n => A n s)) r := by
  obtain ⟨x, s⟩ := r
  cases x with
  | normal => rfl
  | _ => exact lim_const _
theorem Mono.nxt {A : Nat → St → Option (AX × St)} (h : ∀ s, Mono (fun n => A n s)) (r : AX × St) : Mono (fun n => Abs.nxt (A n) r) := fun n v hv => nxt_mono (fun s v hv => h s n v hv) r v hv
theorem X_seq {x y : EC} {s : St} : X T b (.seq x y) s = bnd (X T b x s) (nxt (X T b y)) := by
  unfold X
  have e : ∀ n, evC (runF T n) b n (.seq x y) s = bnd (evC (runF T n) b n x s) (nxt (evC (runF T n) b n y)) := fun n => by rw [evC]
  simp only [e]
  rw [lim_bnd (X_mono T b x s) (fun r => Mono.nxt (fun s => X_mono T b y s) r)]
  congr 1; funext r; exact nxt_lim r
theorem X_cond {c : Opd} {x y : EC} {s : St} : X T b (.cond c x y) s = cnd (isBool (getOpd s.get c)) (X T b x s) (X T b y s) := by
  unfold X
  have e : ∀ n, evC (runF T n) b n (.cond c x y) s = cnd (isBool (getOpd s.get c)) (evC (runF T n) b n x s) (evC (runF T n) b n y s) := fun n => by rw [evC]
  simp only [e]
  generalize isBool (getOpd s.get c) = t
  cases t with
  | none => exact lim_const _
  | some v => exact lim_if
theorem X_block {id : Nat} {x : EC} {s : St} : X T b (.block id x) s = bnd (X T b x s) fun r => some (outB id r) := by
  unfold X
  have e : ∀ n, evC (runF T n) b n (.block id x) s = bnd (evC (runF T n) b n x s) fun r => some (outB id r) := fun n => by rw [evC]
  simp only [e]
  exact lim_bndc (X_mono T b x s)
theorem X_view {v : List Vw} {x : EC} {s : St} : X T b (.view v x) s = bnd (vwL b v s) (X T b x) := by
  unfold X
  have e : ∀ n, evC (runF T n) b n (.view v x) s = bnd (vwL b v s) (evC (runF T n) b n x) := fun n => by rw [evC]
  simp only [e]
  rw [lim_bnd (A := fun _ => vwL b v s) (B := fun n s => evC (runF T n) b n x s) (Mono.const _) (fun s => X_mono T b x s), lim_const]
theorem XG_mono (hd : List Vw) (x : EC) (s : St) : Mono (fun n => bnd (evC (runF T n) b n x s) (nxt fun s => bnd (vwL b hd s) fun s => some (AX.normal, s))) := .bnd (X_mono T b x s) (fun r => .const _)
theorem XL_mono (hd : List Vw) (x : EC) (s : St) : Mono (fun n => iterL (fun s => bnd (evC (runF T n) b n x s) (nxt fun s => bnd (vwL b hd s) fun s => some (AX.normal, s))) n s) :=
  fun n v h => iterL_mono (fun s v hv => XG_mono hd x s n v hv) (Nat.le_succ n) h
theorem X_loop {hd : List Vw} {x : EC} {s : St} : X T b (.loop hd x) s = bnd (vwL b hd s) (XL T b hd x) := by
  unfold X
  have e : ∀ n, evC (runF T n) b n (.loop hd x) s = bnd (vwL b hd s) (iterL (fun s => bnd (evC (runF T n) b n x s) (nxt fun s => bnd (vwL b hd s) fun s => some (.normal, s))) n) := fun n => by rw [evC]
  simp only [e]
  rw [lim_bnd (A := fun _ => vwL b hd s) (B := fun n s => iterL (fun s => bnd (evC (runF T n) b n x s) (nxt fun s => bnd (vwL b hd s) fun s => some (.normal, s))) n s) (Mono.const _) (fun s => XL_mono hd x s), lim_const]
  rfl
theorem XG_lim (hd : List Vw) (x : EC) (s : St) : lim (fun n => bnd (evC (runF T n) b n x s) (nxt fun s => bnd (vwL b hd s) fun s => some (AX.normal, s))) = XG T b hd x s := by
  exact lim_bndc (X_mono T b x s)
theorem XL_eq {hd : List Vw} {x : EC} {s : St} : XL T b hd x s = bnd (XG T b hd x s) (nxt (XL T b hd x)) := by
  have h0 : XL T b hd x s = lim (fun n => iterL (fun s => bnd (evC (runF T (n + 1)) b (n + 1) x s) (nxt fun s => bnd (vwL b hd s) fun s => some (AX.normal, s))) (n + 1) s) := (lim_shift (XL_mono hd x s)).symm
  rw [h0]
  simp only [iterL]
  rw [lim_bnd (A := fun n => bnd (evC (runF T (n + 1)) b (n + 1) x s) (nxt fun s => bnd (vwL b hd s) fun s => some (AX.normal, s)))
    (B := fun n => nxt (iterL (fun s => bnd (evC (runF T (n + 1)) b (n + 1) x s) (nxt fun s => bnd (vwL b hd s) fun s => some (AX.normal, s))) n))
    (fun n v h => XG_mono hd x s (n + 1) v h) (fun r => Mono.nxt (A := fun n => iterL (fun s => bnd (evC (runF T (n + 1)) b (n + 1) x s) (nxt fun s => bnd (vwL b hd s) fun s => some (AX.normal, s))) n) (fun s n v h => iterL_mono (fun s v hv => XG_mono hd x s (n + 1) v hv) (Nat.le_succ n) h) r)]
  rw [lim_shift (XG_mono hd x s), XG_lim]
  congr 1; funext r
  rw [nxt_lim]
  congr 1; funext s
  refine lim_ext (fun n v h => iterL_mono (fun s v hv => XG_mono hd x s (n + 1) v hv) (Nat.le_succ n) h) (XL_mono hd x s) (fun v => ⟨fun ⟨n, h⟩ => ⟨n + 1, ?_⟩, fun ⟨n, h⟩ => ⟨n, ?_⟩⟩)
  · exact iterL_mono (fun s v hv => hv) (Nat.le_succ n) h
  · exact iterL_mono (fun s v hv => XG_mono hd x s n v hv) (Nat.le_refl n) h
theorem XL_out {hd : List Vw} {x : EC} {s : St} {r : AX × St} (h : XG T b hd x s = some r) (hr : r.1 ≠ .normal) : XL T b hd x s = some r := by
  rw [XL_eq, h]
  obtain ⟨y, s'⟩ := r
  cases y with
  | normal => exact absurd rfl hr
  | _ => rfl
variable {P : Program} {TT : Types} {pures : List FuncId}
theorem E_calls (hm : P.follows .mixedOrders = true) (hTT : ∀ t U, TT.get t = some U → tyOf P t = some U) (hT : TOk P TT pures T) {f : FuncId} {args : List AV} {res : AV} (h : E T f args [] = some (res, [])) : ACalls P f args res := by
  obtain ⟨n, hn⟩ := lim_some h
  exact runF_sound hm hTT hT n f args res hn
end
end Go.Abs
namespace Go.Abs
open Go Go.RowKit
abbrev Hint := List (Nat × List Vw)
abbrev Hints := List (Nat × Hint)
def hintAt : Hint → Nat → List Vw
  | [], _ => []
  | (k, v) :: r, p => if k = p then v else hintAt r p
def hintOf : Hints → Nat → Hint
  | [], _ => []
  | (k, v) :: r, f => if k = f then v else hintOf r f
def asPick (t : Nat) (want : Bool) : List Opd → Option Nat
  | [.tmp u, .tmp x, .const (.bool false)] => if u = t ∧ want = true then some x else none
  | [.tmp u, .const (.bool true), .tmp x] => if u = t ∧ want = false then some x else none
  | _ => none
def asItem (x : AOp) : EI := match x.item with
  | .op k os => .op k os x.dst x.solo
  | .pcall g os => .pc g os x.dst x.solo
  | .scall g os => .sc g os x.dst x.solo
def grpL : Nat → Option (Nat × Bool) → List (Option (Nat × Bool)) → List AOp → Option (List EI × List AOp)
  | 0, _, _, _ => none
  | n + 1, gd, outer, l => match l with
    | [] => some ([], [])
    | x :: xs =>
      if x.guard = gd then match grpL n gd outer xs with
        | some (is, r) => some (asItem x :: is, r)
        | none => none
      else if outer.contains x.guard then some ([], x :: xs)
      else match x.guard with
        | none => none
        | some (t, want) => match grpL n (some (t, want)) (gd :: outer) (x :: xs) with
          | some (G, ⟨.op .pick os, some dst, gd', solo⟩ :: r) => if gd' = gd then match asPick t want os with
            | some y => match grpL n gd outer r with
              | some (is, r') => some (.grp t want G y dst solo :: is, r')
              | none => none
            | none => none
            else none
          | _ => none
def group (l : List AOp) : Option (List EI) := match grpL (2 * l.length + 2) none [] l with
  | some (is, []) => some is
  | _ => none
theorem asPick_eq {t x : Nat} {want : Bool} {os : List Opd} (h : asPick t want os = some x) : os = pickOps t want x := by
  unfold asPick at h
  split at h
  · split at h
    · rename_i hc; obtain ⟨rfl, rfl⟩ := hc; cases h; rfl
    · cases h
  · split at h
    · rename_i hc; obtain ⟨rfl, rfl⟩ := hc; cases h; rfl
    · cases h
  · cases h
theorem erase_asItem (x : AOp) : eraseI x.guard (asItem x) = [x] := by
  obtain ⟨item, dst, guard, solo⟩ := x
  cases item <;> rfl
theorem grpL_erase : ∀ (n : Nat) {gd : Option (Nat × Bool)} {outer : List (Option (Nat × Bool))} {l : List AOp} {is : List EI} {r : List AOp}, grpL n gd outer l = some (is, r) → eraseL gd is ++ r = l := by
  intro n
  induction n with
  | zero => intro gd outer l is r h; simp [grpL] at h
  | succ n ih =>
    intro gd outer l is r h
    simp only [grpL] at h
    split at h
    · cases h; rfl
    · rename_i x xs
      split at h
      · rename_i hg
        split at h
        · rename_i is' r' h1
          cases h
          have := ih h1
          subst hg
          show (eraseI x.guard (asItem x) ++ eraseL x.guard is') ++ r = _
          rw [erase_asItem, List.append_assoc, this]; rfl
        · cases h
      · split at h
        · cases h; rfl
        · split at h
          · cases h
          · rename_i t want _
            split at h
            · rename_i G os dst gd' solo r1 h1
              split at h
              · rename_i hgd
                subst hgd
                split at h
                · rename_i y hy
                  split at h
                  · rename_i is' r' h2
                    cases h
                    have e1 := ih h1
                    have e2 := ih h2
                    rw [asPick_eq hy] at e1
                    show ((eraseL (some (t, want)) G ++ [_]) ++ eraseL gd' is') ++ r = _
                    rw [← e1, ← e2]; simp
                  · cases h
                · cases h
              · cases h
            · cases h
theorem group_erase {l : List AOp} {is : List EI} (h : group l = some is) : eraseL none is = l := by
  unfold group at h
  split at h
  · rename_i is' h1
    cases h
    have := grpL_erase _ h1
    simpa using this
  · cases h
mutual
def wideI : EI → EI
  | .op k os dst solo => .op k os dst solo
  | .pc g os dst solo => .pc g os dst solo
  | .sc g os dst solo => .sc g os dst solo
  | .grp t want G x dst solo => .grw t want (wideL G) x dst solo
  | .grw t want G x dst solo => .grw t want (wideL G) x dst solo
def wideL : List EI → List EI
  | [] => []
  | x :: xs => wideI x :: wideL xs
end
mutual
theorem erase_wideI : ∀ (x : EI) (gd : Option (Nat × Bool)), eraseI gd (wideI x) = eraseI gd x
  | .op .., gd => by simp only [wideI]
  | .pc .., gd => by simp only [wideI]
  | .sc .., gd => by simp only [wideI]
  | .grp t want G x dst solo, gd => by simp only [wideI, eraseI, erase_wideL G]
  | .grw t want G x dst solo, gd => by simp only [wideI, eraseI, erase_wideL G]
theorem erase_wideL : ∀ (l : List EI) (gd : Option (Nat × Bool)), eraseL gd (wideL l) = eraseL gd l
  | [], gd => by simp only [wideL]
  | x :: xs, gd => by simp only [wideL, eraseL, erase_wideI x, erase_wideL xs]
end
def wideV (v : List Vw) (l : List EI) : List EI := match v with
  | .wide :: _ => wideL l
  | _ => l
theorem erase_wideV (v : List Vw) (l : List EI) (gd : Option (Nat × Bool)) : eraseL gd (wideV v l) = eraseL gd l := by
  unfold wideV
  split
  · exact erase_wideL l gd
  · rfl
def withV (v : List Vw) (c : EC) : EC := match v with
  | [] => c
  | v => .view v c
def annC (h : Hint) : AC → Nat → Option (EC × Nat)
  | .skip, p => some (.skip, p)
  | .exit id, p => some (.exit id, p)
  | .ret, p => some (.ret, p)
  | .region l d, p => match group l with
    | some is => some (withV (hintAt h p) (.region (wideV (hintAt h p) is) d), p + 1)
    | none => none
  | .regL l js is, p => match group l with
    | some is' => some (withV (hintAt h p) (.regL (wideV (hintAt h p) is') js is), p + 1)
    | none => none
  | .seq a b, p => match annC h a p with
    | some (a, p) => match annC h b p with
      | some (b, p) => some (.seq a b, p)
      | none => none
    | none => none
  | .cond c a b, p => match annC h a p with
    | some (a, p) => match annC h b p with
      | some (b, p) => some (.cond c a b, p)
      | none => none
    | none => none
  | .block id a, p => match annC h a p with
    | some (a, p) => some (.block id a, p)
    | none => none
  | .loop a, p => match annC h a (p + 1) with
    | some (a, q) => some (.loop (hintAt h p) a, q)
    | none => none
theorem withV_erase (v : List Vw) (c : EC) : eraseC (withV v c) = eraseC c := by
  cases v <;> rfl
theorem annC_erase {h : Hint} : ∀ {c : AC} {p q : Nat} {ec : EC}, annC h c p = some (ec, q) → eraseC ec = c := by
  intro c
  induction c with
  | skip => intro p q ec e; simp only [annC] at e; cases e; rfl
  | exit id => intro p q ec e; simp only [annC] at e; cases e; rfl
  | ret => intro p q ec e; simp only [annC] at e; cases e; rfl
  | region l d =>
    intro p q ec e
    simp only [annC] at e
    split at e
    · rename_i is h1; cases e; rw [withV_erase]; show AC.region (eraseL none (wideV _ is)) d = _; rw [erase_wideV, group_erase h1]
    · cases e
  | regL l js is =>
    intro p q ec e
    simp only [annC] at e
    split at e
    · rename_i is' h1; cases e; rw [withV_erase]; show AC.regL (eraseL none (wideV _ is')) js is = _; rw [erase_wideV, group_erase h1]
    · cases e
  | seq a b iha ihb =>
    intro p q ec e
    simp only [annC] at e
    split at e
    · rename_i h1
      split at e
      · rename_i h2; cases e; show AC.seq _ _ = _; rw [iha h1, ihb h2]
      · cases e
    · cases e
  | cond o a b iha ihb =>
    intro p q ec e
    simp only [annC] at e
    split at e
    · rename_i h1
      split at e
      · rename_i h2; cases e; show AC.cond _ _ _ = _; rw [iha h1, ihb h2]
      · cases e
    · cases e
  | block id a ih =>
    intro p q ec e
    simp only [annC] at e
    split at e
    · rename_i h1; cases e; show AC.block _ _ = _; rw [ih h1]
    · cases e
  | loop a ih =>
    intro p q ec e
    simp only [annC] at e
    split at e
    · rename_i h1; cases e; show AC.loop _ = _; rw [ih h1]
    · cases e
abbrev Wids := List (Nat × Wd)
def widOf : Wids → Nat → Wd
  | [], _ => .one
  | (k, v) :: r, f => if k = f then v else widOf r f
def annF (h : Hint) (w : Wd) (F : AF) : Option EF := match annC h F.body 0 with
  | some (ec, _) => if okE ec = true then some ⟨ec, F.results, F.ntmps, w, none⟩ else none
  | none => none
def tableOf (P : Program) (TT : Types) (pures : List FuncId) (hs : Hints) (ws : Wids) (f : FuncId) : Option EF := match P.funcs[f]? with
  | some fn => match compileF P TT pures fn with
    | some F => annF (hintOf hs f) (widOf ws f) F
    | none => none
  | none => none
theorem table_c {P : Program} {TT : Types} {pures : List FuncId} {hs : Hints} {ws : Wids} {f : FuncId} {F : EF} (h : tableOf P TT pures hs ws f = some F) : F.orc = none ∧ COk P TT pures f F := by
  unfold tableOf at h
  split at h
  · rename_i fn hfn
    split at h
    · rename_i AF hc
      unfold annF at h
      split at h
      · rename_i ec q h1
        split at h
        · rename_i hok
          cases h
          refine ⟨rfl, fn, hfn, ?_, hok⟩
          rw [hc]; show some AF = some ⟨eraseC ec, AF.results, AF.ntmps⟩
          rw [annC_erase h1]
        · cases h
      · cases h
    · cases h
  · cases h
theorem table_ok (P : Program) (TT : Types) (pures : List FuncId) (hs : Hints) (ws : Wids) : TOk P TT pures (tableOf P TT pures hs ws) := fun f F h => .inl (table_c h)
def orcT (T : FuncId → Option EF) (os : List (Nat × (List AV → Mem → Option (AV × Mem)))) : FuncId → Option EF := match os with
  | [] => T
  | (k, g) :: r => fun f => if f = k then some ⟨.ret, [], 0, .one, some g⟩ else orcT T r f
theorem orcT_ok {P : Program} {TT : Types} {pures : List FuncId} {T : FuncId → Option EF} (hT : TOk P TT pures T) {os : List (Nat × (List AV → Mem → Option (AV × Mem)))} (ho : ∀ p ∈ os, OrcOk P p.1 p.2) : TOk P TT pures (orcT T os) := by
  induction os with
  | nil => exact hT
  | cons p r ih =>
    obtain ⟨k, g⟩ := p
    intro f F h
    simp only [orcT] at h
    split at h
    · rename_i e; subst e; cases h
      exact .inr ⟨g, rfl, ho (f, g) (List.mem_cons_self ..)⟩
    · exact ih (fun p hp => ho p (List.mem_cons_of_mem _ hp)) f F h
theorem orcT_at {T : FuncId → Option EF} {os : List (Nat × (List AV → Mem → Option (AV × Mem)))} {f : FuncId} {F : EF} (h : T f = some F) (ho : (os.all fun p => !(p.1 == f)) = true) : orcT T os f = some F := by
  induction os with
  | nil => exact h
  | cons p r ih =>
    obtain ⟨k, g⟩ := p
    simp only [List.all_cons, Bool.and_eq_true, Bool.not_eq_true', beq_eq_false_iff_ne] at ho
    simp only [orcT]
    rw [if_neg (fun e => ho.1 e.symm)]; exact ih (by simpa using ho.2)
theorem table_at' {P : Program} {TT : Types} {pures : List FuncId} {hs : Hints} {ws : Wids} {f : FuncId} {fn : Func} {F : EF} (hf : P.funcs[f]? = some fn) (h : (match compileF P TT pures fn with | some A => annF (hintOf hs f) (widOf ws f) A | none => none) = some F) : tableOf P TT pures hs ws f = some F := by
  unfold tableOf; rw [hf]; exact h
end Go.Abs
namespace Go.Abs
open Go Go.RowKit
section
variable {mem : Mem} {solo : Bool}
theorem opE_c {k : K} {args : List AV} {c : Prop} [Decidable c] {r : AV × Option Mem} (h : (weff (liveOf mem) k args (fun e => (e.quiet || solo) = true ∧ e = effOf (liveOf mem) k args) ∧ args.all isDef = true) ↔ c)
    (h3 : c → outE mem (effOf (liveOf mem) k args) = r) : opE mem solo k args = if c then some r else none := by
  unfold opE
  by_cases hc : c
  · rw [if_pos hc, if_pos (h.2 hc), h3 hc]
  · rw [if_neg hc, if_neg (fun hh => hc (h.1 hh))]
theorem opE_t {k : K} {args : List AV} {r : AV × Option Mem} (h : weff (liveOf mem) k args (fun e => (e.quiet || solo) = true ∧ e = effOf (liveOf mem) k args) ∧ args.all isDef = true)
    (h3 : outE mem (effOf (liveOf mem) k args) = r) : opE mem solo k args = some r := by
  unfold opE; rw [if_pos h, h3]
theorem ox_mv (x : AV) : opX mem solo .mv [x] = some (x, none) := by
  unfold opX
  by_cases h : isUmv .mv [x] = true
  · rw [if_pos h]; cases x <;> simp [isUmv] at h; rfl
  · rw [if_neg h]
    have hd : isDef x = true := by cases x <;> first | rfl | exact absurd rfl h
    exact opE_t ⟨by simp [weff, effOf, Eff.quiet], by simp [hd]⟩ (by simp [effOf, outE, effVal])
theorem o_mv (x : AV) : opE mem solo .mv [x] = if isDef x = true then some (x, none) else none :=
  opE_c (by simp [weff, effOf, Eff.quiet]) (fun _ => rfl)
theorem o_box (s : Nat) (x : AV) : opE mem solo (.box s) [x] = if x.cells.length = s ∧ okV (liveOf mem) x = true then some (.ptr mem.length 0 0, some (mem ++ [some (s, [x])])) else none :=
  opE_c (by
    have : okV (liveOf mem) x = true → isDef x = true := by cases x <;> simp [okV, isDef]
    simp only [weff, effOf, Eff.quiet, Bool.true_or, true_and, List.all_cons, List.all_nil, Bool.and_true, and_true]
    exact ⟨fun h => h.1, fun h => ⟨h, this h.2⟩⟩) (fun _ => rfl)
theorem o_alloc (z : AV) : opE mem solo (.alloc z) [] = some (.ptr mem.length 0 0, some (mem ++ [some (z.cells.length, [z])])) :=
  opE_t (by simp [weff, effOf, Eff.quiet]) rfl
theorem o_build (z : List AV) (parts : List (Nat × Nat)) (xs : List AV) : opE mem solo (.build z parts) xs =
    bnd (fillA z (parts.zipWith (fun p x => (p.1, p.2, x)) xs)) fun cs => if parts.length = xs.length ∧ xs.all (okV (liveOf mem)) = true then some (.agg cs, none) else none := by
  have hd : ∀ x : AV, okV (liveOf mem) x = true → isDef x = true := by intro x; cases x <;> simp [okV, isDef]
  cases h : fillA z (parts.zipWith (fun p x => (p.1, p.2, x)) xs) with
  | none =>
    have : ¬ (weff (liveOf mem) (.build z parts) xs (fun e => (e.quiet || solo) = true ∧ e = effOf (liveOf mem) (.build z parts) xs) ∧ xs.all isDef = true) := by
      intro hh; have := hh.1; simp only [weff, h] at this
    unfold opE; rw [if_neg this]; rfl
  | some cs =>
    refine opE_c ?_ (fun _ => by simp only [effOf, h]; rfl)
    simp only [weff, effOf, h, Eff.quiet, Bool.true_or, true_and, Option.getD_some, and_true, List.all_eq_true]
    exact ⟨fun ⟨⟨h1, h2⟩, _⟩ => ⟨h1, h2⟩, fun ⟨h1, h2⟩ => ⟨⟨h1, h2⟩, fun x hx => hd x (h2 x hx)⟩⟩
theorem o_bslice0 (s : Nat) (z : AV) : opE mem solo (.bslice s 0 z []) [] = some (.nil, none) :=
  opE_t (by simp [weff, effOf, Eff.quiet]) rfl
theorem o_bslice (s n : Nat) (z : AV) (idx : List Nat) (xs : List AV) : opE mem solo (.bslice s (n + 1) z idx) xs =
    if idx.length = xs.length ∧ xs.all (fun x => decide (x.cells.length = s) && okV (liveOf mem) x) = true ∧ idx.all (fun i => decide (i < n + 1)) = true ∧ (n + 1) * s ≤ 16777216 then
      some (.sl mem.length 0 ((idx.zip xs).foldl (fun r p => r.set p.1 p.2) (List.replicate (n + 1) z)).length, some (mem ++ [some (s, (idx.zip xs).foldl (fun r p => r.set p.1 p.2) (List.replicate (n + 1) z))])) else none := by
  have hd : ∀ x : AV, okV (liveOf mem) x = true → isDef x = true := by intro x; cases x <;> simp [okV, isDef]
  refine opE_c ?_ (fun _ => rfl)
  simp only [weff, effOf, Eff.quiet, Bool.true_or, true_and, and_true, List.all_eq_true, Bool.and_eq_true, decide_eq_true_eq]
  exact ⟨fun ⟨⟨h1, h2, h3, h4⟩, _⟩ => ⟨h1, h2, h3, h4⟩, fun ⟨h1, h2, h3, h4⟩ => ⟨⟨h1, h2, h3, h4⟩, fun x hx => hd x (h2 x hx).2⟩⟩
def ld1c (cs : List AV) (j : Nat) : Option (AV × Option Mem) := if j < cs.length ∧ noOwnC (cs.getD j .undef) = true then some (cs.getD j .undef, none) else none
def ldNc (cs : List AV) (j n : Nat) : Option (AV × Option Mem) := if j + n ≤ cs.length ∧ ((cs.drop j).take n).all noOwnC = true then some (.agg ((cs.drop j).take n), none) else none
def ld1 (i j : Nat) : Option (Nat × List AV) → Option (AV × Option Mem)
  | some (_, xs) => if i < xs.length then ld1c (xs.getD i .undef).cells j else none
  | none => none
def ldN (i j n : Nat) : Option (Nat × List AV) → Option (AV × Option Mem)
  | some (_, xs) => if i < xs.length then ldNc (xs.getD i .undef).cells j n else none
  | none => none
theorem if_and' {c d : Prop} [Decidable c] [Decidable d] {α : Type} (a : α) : (if c ∧ d then some a else none) = if c then (if d then some a else none) else none := by
  by_cases c <;> by_cases d <;> simp_all
theorem o_load1p (id i j : Nat) : opE mem solo .load1 [.ptr id i j] = ld1 i j (liveOf mem id) := by
  cases h : liveOf mem id with
  | none => unfold opE; rw [if_neg]; · rfl
            · intro hh; have := hh.1; simp only [weff, h] at this
  | some sx =>
    obtain ⟨s, xs⟩ := sx
    simp only [ld1, ld1c]
    rw [← if_and']
    exact opE_c (by simp [weff, h, effOf, Eff.quiet, isDef]) (fun _ => by simp [effOf, h, outE, effVal])
theorem o_load1r (cs : List AV) : opE mem solo .load1 [.rop cs] = if 0 < cs.length then some (cs.getD 0 .undef, none) else none :=
  opE_c (by simp [weff, effOf, Eff.quiet, isDef]) (fun _ => rfl)
theorem o_loadNp (n id i j : Nat) : opE mem solo (.loadN n) [.ptr id i j] = ldN i j n (liveOf mem id) := by
  cases h : liveOf mem id with
  | none => unfold opE; rw [if_neg]; · rfl
            · intro hh; have := hh.1; simp only [weff, h] at this
  | some sx =>
    obtain ⟨s, xs⟩ := sx
    simp only [ldN, ldNc]
    rw [← if_and']
    exact opE_c (by simp [weff, h, effOf, Eff.quiet, isDef]) (fun _ => by simp [effOf, h, outE, effVal])
theorem o_loadNr (n : Nat) (cs : List AV) : opE mem solo (.loadN n) [.rop cs] = if n ≤ cs.length then some (.agg (cs.take n), none) else none :=
  opE_c (by simp [weff, effOf, Eff.quiet, isDef]) (fun _ => rfl)
def st1 (mem : Mem) (solo : Bool) (id i j : Nat) (v : AV) : Option (Nat × List AV) → Option (AV × Option Mem)
  | some (s, xs) => if i < xs.length then (if j < (xs.getD i .undef).cells.length ∧ okC (liveOf mem) v = true ∧ solo = true then some (.undef, some (mem.set id (some (s, xs.set i ((xs.getD i .undef).setCell j v))))) else none) else none
  | none => none
theorem o_store1 (id i j : Nat) (v : AV) : opE mem solo .store1 [.ptr id i j, v] = st1 mem solo id i j v (liveOf mem id) := by
  have hd : okC (liveOf mem) v = true → isDef v = true := by cases v <;> simp [okC, okV, isDef]
  cases h : liveOf mem id with
  | none => unfold opE; rw [if_neg]; · rfl
            · intro hh; have := hh.1; simp only [weff, h] at this
  | some sx =>
    obtain ⟨s, xs⟩ := sx
    simp only [st1]
    rw [← if_and']
    refine opE_c ?_ (fun _ => by simp [effOf, h, outE, effVal, effMem])
    simp only [weff, h, effOf, Eff.quiet, isDef, List.all_cons, List.all_nil, Bool.true_and, Bool.and_true, Option.getD_some, Bool.false_or, and_true]
    exact ⟨fun ⟨⟨h1, h2, h3, h4⟩, _⟩ => ⟨h1, h2, h3, h4⟩, fun ⟨h1, h2, h3, h4⟩ => ⟨⟨h1, h2, h3, h4⟩, hd h3⟩⟩
def clE (mem : Mem) (solo : Bool) (id off n s : Nat) (z : AV) : Option (Nat × List AV) → Option (AV × Option Mem)
  | some (s', xs) => if off + n ≤ xs.length then (if s' = s ∧ z.cells.length = s ∧ z.cells.all (okC (liveOf mem)) = true ∧ solo = true then some (.undef, some (mem.set id (some (s, xs.take off ++ List.replicate n z ++ xs.drop (off + n))))) else none) else none
  | none => none
theorem o_clear (s : Nat) (z : AV) (id off n : Nat) : opE mem solo (.clear s z) [.sl id off n] = clE mem solo id off n s z (liveOf mem id) := by
  cases h : liveOf mem id with
  | none => unfold opE; rw [if_neg]; · rfl
            · intro hh; have := hh.1; simp only [weff, h] at this
  | some sx =>
    obtain ⟨s', xs⟩ := sx
    simp only [clE]
    rw [← if_and']
    refine opE_c ?_ (fun _ => by simp [effOf, h, outE, effVal, effMem])
    simp only [weff, h, effOf, Eff.quiet, isDef, List.all_cons, List.all_nil, Bool.true_and, Bool.and_true, Option.getD_some, Bool.false_or, and_true]
    exact ⟨fun ⟨h1, h2, h3, h4, h5⟩ => ⟨h2, h1, h3, h4, h5⟩, fun ⟨h2, h1, h3, h4, h5⟩ => ⟨h1, h2, h3, h4, h5⟩⟩
def cpE (mem : Mem) (solo : Bool) (id off n : Nat) : Option (Nat × List AV) → Option (List AV) → Option (AV × Option Mem)
  | some (s', xs), some es => if off + n ≤ xs.length then (if s' = 1 ∧ 0 < n ∧ 0 < es.length ∧ (es.take n).all (okC (liveOf mem)) = true ∧ solo = true then some (.int .i64 ((es.take n).length : Nat), some (mem.set id (some (1, xs.take off ++ es.take n ++ xs.drop (off + (es.take n).length))))) else none) else none
  | _, _ => none
theorem o_copy (id off n : Nat) (y : AV) : opE mem solo .copy [.sl id off n, y] = cpE mem solo id off n (liveOf mem id) (elems (liveOf mem) 1 y) := by
  cases h : liveOf mem id with
  | none => unfold opE; rw [if_neg]; · rfl
            · intro hh; have := hh.1; simp only [weff, h] at this
  | some sx =>
    obtain ⟨s', xs⟩ := sx
    cases hes : elems (liveOf mem) 1 y with
    | none => unfold opE; rw [if_neg]; · rfl
              · intro hh; have := hh.1; simp only [weff, h, hes] at this
    | some es =>
      have hdx : isDef y = true := by cases y <;> simp [elems] at hes <;> rfl
      have hds : isDef (.sl id off n) = true := rfl
      simp only [cpE]
      rw [← if_and']
      refine opE_c ?_ (fun _ => by simp only [effOf, h, hes, outE, effVal, effMem, Option.getD_some])
      simp only [weff, h, hes, effOf, Eff.quiet, hds, hdx, List.all_cons, List.all_nil, Bool.true_and, Bool.and_true, Option.getD_some, Bool.false_or, and_true]
      exact ⟨fun ⟨h1, h2, h3, h4, h5, h6⟩ => ⟨h2, h1, h3, h4, h5, h6⟩, fun ⟨h2, h1, h3, h4, h5, h6⟩ => ⟨h1, h2, h3, h4, h5, h6⟩⟩
def stN (mem : Mem) (solo : Bool) (id i j n : Nat) (vs : List AV) : Option (Nat × List AV) → Option (AV × Option Mem)
  | some (s, xs) => if i < xs.length then (if vs.length = n ∧ j + n ≤ (xs.getD i .undef).cells.length ∧ vs.all (okC (liveOf mem)) = true ∧ solo = true then some (.undef, some (mem.set id (some (s, xs.set i ((xs.getD i .undef).setCells j vs))))) else none) else none
  | none => none
theorem o_storeN (n id i j : Nat) (vs : List AV) : opE mem solo (.storeN n) [.ptr id i j, .agg vs] = stN mem solo id i j n vs (liveOf mem id) := by
  cases h : liveOf mem id with
  | none => unfold opE; rw [if_neg]; · rfl
            · intro hh; have := hh.1; simp only [weff, h] at this
  | some sx =>
    obtain ⟨s, xs⟩ := sx
    simp only [stN]
    rw [← if_and']
    refine opE_c ?_ (fun _ => by simp [effOf, h, outE, effVal, effMem])
    simp [weff, h, effOf, Eff.quiet, isDef]
theorem o_faddrp (off id i j : Nat) : opE mem solo (.faddr off) [.ptr id i j] = if (liveOf mem id).isSome = true then some (.ptr id i (j + off), none) else none :=
  opE_c (by simp [weff, effOf, Eff.quiet, isDef]) (fun _ => rfl)
theorem o_faddrr (off : Nat) (cs : List AV) : opE mem solo (.faddr off) [.rop cs] = some (.rop (cs.drop off), none) :=
  opE_t (by simp [weff, effOf, Eff.quiet, isDef]) rfl
def iaE (s : Nat) (r : AV) : Option (Nat × List AV) → Option (AV × Option Mem)
  | some (s', _) => if s' = s then some (r, none) else none
  | none => none
theorem o_iaddrs (s id off n : Nat) (k : IntKind) (i : Int) : opE mem solo (.iaddr s) [.sl id off n, .int k i] = if 0 ≤ i ∧ i < (n : Int) then iaE s (.ptr id (off + i.toNat) 0) (liveOf mem id) else none := by
  cases h : liveOf mem id with
  | none =>
    have : opE mem solo (.iaddr s) [.sl id off n, .int k i] = none := by
      unfold opE; rw [if_neg]
      intro hh; have := hh.1; simp only [weff, h] at this
    rw [this]; simp [iaE]
  | some sx =>
    obtain ⟨s', xs⟩ := sx
    simp only [iaE]
    rw [← if_and']
    refine opE_c ?_ (fun _ => by simp [effOf, h, outE, effVal])
    simp only [weff, h, effOf, Eff.quiet, isDef, List.all_cons, List.all_nil, Bool.true_and, Bool.and_true, Bool.true_or, and_true, true_and]
    exact ⟨fun ⟨h1, h2, h3⟩ => ⟨⟨h2, h3⟩, h1⟩, fun ⟨⟨h2, h3⟩, h1⟩ => ⟨h1, h2, h3⟩⟩
theorem o_iaddrr (s s' : Nat) (xs : List AV) (k : IntKind) (i : Int) : opE mem solo (.iaddr s) [.ro s' xs, .int k i] = if 0 ≤ i ∧ i < (xs.length : Int) then (if s' = s then some (.rop (xs.getD i.toNat .undef).cells, none) else none) else none := by
  rw [← if_and']
  refine opE_c ?_ (fun _ => rfl)
  simp only [weff, effOf, Eff.quiet, isDef, List.all_cons, List.all_nil, Bool.true_and, Bool.and_true, Bool.true_or, and_true, true_and]
  exact ⟨fun ⟨h1, h2, h3⟩ => ⟨⟨h2, h3⟩, h1⟩, fun ⟨⟨h2, h3⟩, h1⟩ => ⟨h1, h2, h3⟩⟩
theorem o_field1 (off : Nat) (cs : List AV) : opE mem solo (.field1 off) [.agg cs] = if off < cs.length then some (cs.getD off .undef, none) else none :=
  opE_c (by simp [weff, effOf, Eff.quiet, isDef]) (fun _ => rfl)
theorem o_fieldN (off n : Nat) (cs : List AV) : opE mem solo (.fieldN off n) [.agg cs] = if off + n ≤ cs.length then some (.agg ((cs.drop off).take n), none) else none :=
  opE_c (by simp [weff, effOf, Eff.quiet, isDef]) (fun _ => rfl)
theorem o_idxStr (s : ByteArray) (k : IntKind) (i : Int) : opE mem solo .idxStr [.str s, .int k i] = if 0 ≤ i ∧ i < (s.size : Int) then some (.int .u8 ((s.data.toList.getD i.toNat 0).toNat : Nat), none) else none :=
  opE_c (by simp [weff, effOf, Eff.quiet, isDef]) (fun _ => rfl)
theorem o_lenn : opE mem solo .len [.nil] = some (.int .i64 0, none) := opE_t (by simp [weff, effOf, Eff.quiet, isDef]) rfl
theorem o_lenr (s : Nat) (xs : List AV) : opE mem solo .len [.ro s xs] = some (.int .i64 (xs.length : Nat), none) := opE_t (by simp [weff, effOf, Eff.quiet, isDef]) rfl
theorem o_lens (id off n : Nat) : opE mem solo .len [.sl id off n] = if (liveOf mem id).isSome = true then some (.int .i64 (n : Nat), none) else none :=
  opE_c (by simp [weff, effOf, Eff.quiet, isDef]) (fun _ => rfl)
theorem o_lenStr (s : ByteArray) : opE mem solo .lenStr [.str s] = some (.int .i64 (s.size : Nat), none) := opE_t (by simp [weff, effOf, Eff.quiet, isDef]) rfl
def apE (mem : Mem) (solo : Bool) (s bytes : Nat) : AV → List AV → Option (AV × Option Mem)
  | .nil, [] => some (.nil, none)
  | .nil, e :: es => if (e :: es).length * bytes ≤ 140737488355328 then some (.sl mem.length 0 (e :: es).length, some (mem ++ [some (s, e :: es)])) else none
  | .sl id off n, es => match liveOf mem id with
    | some (s', xs) => if n ≤ xs.length ∧ (n + es.length) * bytes ≤ 140737488355328 then
        (if s' = s ∧ off = 0 ∧ es.all (fun x => x.cells.all (okC (liveOf mem))) = true ∧ solo = true then some (.sl mem.length 0 (xs.take n ++ es).length, some (mem.set id none ++ [some (s, xs.take n ++ es)])) else none) else none
    | none => none
  | _, _ => none
theorem o_append (s bytes : Nat) (b x : AV) : opE mem solo (.append s bytes) [b, x] = bnd (elems (liveOf mem) s x) (apE mem solo s bytes b) := by
  cases hx : elems (liveOf mem) s x with
  | none =>
    show _ = none
    unfold opE; rw [if_neg]
    intro hh; have := hh.1
    cases b <;> cases x <;> simp [weff, hx] at this
  | some es =>
    show _ = apE mem solo s bytes b es
    have hdx : isDef x = true := by cases x <;> simp [elems] at hx <;> rfl
    have bad : ∀ b : AV, (∀ Q, ¬ weffAppend (liveOf mem) s bytes b es Q) → opE mem solo (.append s bytes) [b, x] = none := by
      intro b hb
      unfold opE; rw [if_neg]
      intro hh; have := hh.1
      simp only [weff, hx] at this
      exact hb _ this
    have hall : ∀ b : AV, isDef b = true → [b, x].all isDef = true := fun b hb => by simp [hb, hdx]
    cases b with
    | nil =>
      cases es with
      | nil => exact opE_t ⟨by simp [weff, hx, weffAppend, effOf, Eff.quiet], hall _ rfl⟩ (by simp [effOf, hx, outE, effVal])
      | cons e es =>
        refine opE_c ?_ (fun _ => by simp [effOf, hx, outE, effVal, effMem])
        rw [hall _ rfl]
        simp [weff, hx, weffAppend, effOf, Eff.quiet]
    | sl id off n =>
      cases h : liveOf mem id with
      | none =>
        rw [bad _ (fun Q hw => by simp [weffAppend, h] at hw)]
        simp [apE, h]
      | some sx =>
        obtain ⟨s', xs⟩ := sx
        simp only [apE, h]
        rw [← if_and']
        refine opE_c ?_ (fun _ => by simp [effOf, h, hx, outE, effVal, effMem])
        rw [hall _ rfl]
        simp only [weff, weffAppend, h, hx, effOf, Eff.quiet, and_true, true_and, Bool.false_or, Option.getD_some]
        exact ⟨fun ⟨h1, h2, h3, h4, h5, h6⟩ => ⟨⟨h3, h4⟩, h1, h2, h5, h6⟩, fun ⟨⟨h3, h4⟩, h1, h2, h5, h6⟩ => ⟨h1, h2, h3, h4, h5, h6⟩⟩
    | _ => exact bad _ (fun Q hw => by simp [weffAppend] at hw)
theorem o_mkslice (s bytes : Nat) (z : AV) (k k' : IntKind) (l c : Int) : opE mem solo (.mkslice s bytes z) [.int k l, .int k' c] =
    if 0 ≤ l ∧ l = c ∧ (bytes : Int) * c ≤ 140737488355328 ∧ l ≤ 9223372036854775807 then some (.sl mem.length 0 l.toNat, some (mem ++ [some (s, List.replicate l.toNat z)])) else none :=
  opE_c (by simp [weff, effOf, Eff.quiet, isDef]) (fun _ => by simp [effOf, outE, effVal, effMem])
theorem o_bin (op : BinOp) (x y : AV) : opE mem solo (.bin op) [x, y] = bnd (binV op x y) fun v => some (v, none) := by
  cases h : binV op x y with
  | none =>
    show _ = none
    unfold opE; rw [if_neg]
    intro hh; have := hh.1; simp [weff, h] at this
  | some v =>
    have h1 : isDef x = true ∧ isDef y = true := by
      cases x <;> cases y <;> simp [binV] at h <;> exact ⟨rfl, rfl⟩
    exact opE_t (by simp [weff, effOf, Eff.quiet, h, h1.1, h1.2]) (by simp [effOf, h, outE, effVal])
theorem o_binB (neg a b : Bool) : opE mem solo (.binB neg) [.bool a, .bool b] = some (.bool (if neg then !(a == b) else a == b), none) := opE_t (by simp [weff, effOf, Eff.quiet, isDef]) rfl
theorem o_eqs (neg : Bool) (ks : List Nat) (cs ds : List AV) : opE mem solo (.eqs neg ks) [.agg cs, .agg ds] = bnd (eqCells ks cs ds) fun e => some (.bool (if neg then !e else e), none) := by
  cases h : eqCells ks cs ds with
  | none =>
    show _ = none
    unfold opE; rw [if_neg]
    intro hh; have := hh.1; simp [weff, h] at this
  | some v => exact opE_t (by simp [weff, effOf, Eff.quiet, h, isDef]) (by simp [effOf, h, outE, effVal])
theorem o_not (b : Bool) : opE mem solo .not [.bool b] = some (.bool (!b), none) := opE_t (by simp [weff, effOf, Eff.quiet, isDef]) rfl
theorem o_neg (k : IntKind) (n : Int) : opE mem solo .neg [.int k n] = some (.int k (k.wrap (0 - n)), none) := opE_t (by simp [weff, effOf, Eff.quiet, isDef]) rfl
theorem o_conv (k k' : IntKind) (n : Int) : opE mem solo (.conv k) [.int k' n] = some (.int k (k.wrap n), none) := opE_t (by simp [weff, effOf, Eff.quiet, isDef]) rfl
theorem o_mkfn (f : FuncId) (xs : List AV) : opE mem solo (.mkfn f) xs = if xs.all isDef = true then some (.fn f xs, none) else none :=
  opE_c (by simp [weff, effOf, Eff.quiet, isDef]) (fun _ => by cases xs <;> rfl)
theorem o_ext (i : Nat) (vs : List AV) : opE mem solo (.ext i) [.tup vs] = if i < vs.length then some (vs.getD i .undef, none) else none :=
  opE_c (by simp [weff, effOf, Eff.quiet, isDef]) (fun _ => rfl)
theorem o_b2s (x : AV) : opE mem solo .b2s [x] = bnd (elems (liveOf mem) 1 x) fun es => bnd (bytesOf es) fun l => some (.str ⟨l.toArray⟩, none) := by
  cases hx : elems (liveOf mem) 1 x with
  | none =>
    show _ = none
    unfold opE; rw [if_neg]
    intro hh; have := hh.1; simp [weff, hx] at this
  | some es =>
    have hdx : isDef x = true := by cases x <;> simp [elems] at hx <;> rfl
    cases hb : bytesOf es with
    | none =>
      show _ = bnd (bytesOf es) _
      rw [hb]
      show _ = none
      unfold opE; rw [if_neg]
      intro hh; have := hh.1; simp [weff, hx, hb] at this
    | some l =>
      show _ = bnd (bytesOf es) _
      rw [hb]
      exact opE_t (by simp [weff, effOf, Eff.quiet, hx, hb, hdx]) (by simp [effOf, hx, hb, outE, effVal])
theorem o_nilckr (cs : List AV) : opE mem solo .nilck [.rop cs] = some (.rop cs, none) :=
  opE_t (by simp [weff, effOf, Eff.quiet, isDef]) (by simp [effOf, outE, effVal])
theorem o_nilck (id i j : Nat) : opE mem solo .nilck [.ptr id i j] = if (liveOf mem id).isSome = true then some (.ptr id i j, none) else none :=
  opE_c (by simp [weff, effOf, Eff.quiet, isDef]) (fun _ => rfl)
theorem o_sslh (s : ByteArray) (k k' : IntKind) (l h : Int) : opE mem solo (.sliceStr true true) [.str s, .int k l, .int k' h] = if 0 ≤ l ∧ l ≤ h ∧ h ≤ (s.size : Int) then some (.str (s.extract l.toNat h.toNat), none) else none :=
  opE_c (by simp [weff, effOf, Eff.quiet, isDef]) (fun _ => rfl)
theorem o_ssl (s : ByteArray) (k : IntKind) (l : Int) : opE mem solo (.sliceStr true false) [.str s, .int k l] = if 0 ≤ l ∧ l ≤ (s.size : Int) then some (.str (s.extract l.toNat s.size), none) else none :=
  opE_c (by simp [weff, effOf, Eff.quiet, isDef]) (fun _ => rfl)
theorem o_ssh (s : ByteArray) (k : IntKind) (h : Int) : opE mem solo (.sliceStr false true) [.str s, .int k h] = if 0 ≤ h ∧ h ≤ (s.size : Int) then some (.str (s.extract 0 h.toNat), none) else none :=
  opE_c (by simp [weff, effOf, Eff.quiet, isDef]) (fun _ => rfl)
theorem o_srlh (s s' : Nat) (xs : List AV) (k k' : IntKind) (l h : Int) : opE mem solo (.slice s true true) [.ro s' xs, .int k l, .int k' h] = if s' = s ∧ 0 ≤ l ∧ l ≤ h ∧ h ≤ (xs.length : Int) then some (.ro s ((xs.take h.toNat).drop l.toNat), none) else none :=
  opE_c (by simp [weff, effOf, Eff.quiet, isDef]) (fun _ => rfl)
theorem o_srl (s s' : Nat) (xs : List AV) (k : IntKind) (l : Int) : opE mem solo (.slice s true false) [.ro s' xs, .int k l] = if s' = s ∧ 0 ≤ l ∧ l ≤ (xs.length : Int) then some (.ro s (xs.drop l.toNat), none) else none :=
  opE_c (by simp [weff, effOf, Eff.quiet, isDef]) (fun _ => rfl)
theorem o_srh (s s' : Nat) (xs : List AV) (k : IntKind) (h : Int) : opE mem solo (.slice s false true) [.ro s' xs, .int k h] = if s' = s ∧ 0 ≤ h ∧ h ≤ (xs.length : Int) then some (.ro s (xs.take h.toNat), none) else none :=
  opE_c (by simp [weff, effOf, Eff.quiet, isDef]) (fun _ => rfl)
def slE (s : Nat) (r : AV) : Option (Nat × List AV) → Option (AV × Option Mem)
  | some (s', _) => if s' = s then some (r, none) else none
  | none => none
theorem o_sslh' (s id off n : Nat) (k k' : IntKind) (l h : Int) : opE mem solo (.slice s true true) [.sl id off n, .int k l, .int k' h] = if 0 ≤ l ∧ l ≤ h ∧ h ≤ (n : Int) then slE s (.sl id (off + l.toNat) (h.toNat - l.toNat)) (liveOf mem id) else none := by
  cases hl : liveOf mem id with
  | none =>
    have : opE mem solo (.slice s true true) [.sl id off n, .int k l, .int k' h] = none := by
      unfold opE; rw [if_neg]
      intro hh; have := hh.1; simp only [weff, hl] at this
    rw [this]; simp [slE]
  | some sx =>
    obtain ⟨s', xs⟩ := sx
    simp only [slE]
    rw [← if_and']
    refine opE_c ?_ (fun _ => by simp [effOf, hl, outE, effVal])
    simp only [weff, hl, effOf, Eff.quiet, isDef, List.all_cons, List.all_nil, Bool.true_and, Bool.and_true, Bool.true_or, and_true, true_and]
    exact ⟨fun ⟨h1, h2⟩ => ⟨h2, h1⟩, fun ⟨h2, h1⟩ => ⟨h1, h2⟩⟩
theorem o_ssl' (s id off n : Nat) (k : IntKind) (l : Int) : opE mem solo (.slice s true false) [.sl id off n, .int k l] = if 0 ≤ l ∧ l ≤ (n : Int) then slE s (.sl id (off + l.toNat) (n - l.toNat)) (liveOf mem id) else none := by
  cases hl : liveOf mem id with
  | none =>
    have : opE mem solo (.slice s true false) [.sl id off n, .int k l] = none := by
      unfold opE; rw [if_neg]
      intro hh; have := hh.1; simp only [weff, hl] at this
    rw [this]; simp [slE]
  | some sx =>
    obtain ⟨s', xs⟩ := sx
    simp only [slE]
    rw [← if_and']
    refine opE_c ?_ (fun _ => by simp [effOf, hl, outE, effVal])
    simp only [weff, hl, effOf, Eff.quiet, isDef, List.all_cons, List.all_nil, Bool.true_and, Bool.and_true, Bool.true_or, and_true, true_and]
    exact ⟨fun ⟨h1, h2⟩ => ⟨h2, h1⟩, fun ⟨h2, h1⟩ => ⟨h1, h2⟩⟩
theorem o_ssh' (s id off n : Nat) (k : IntKind) (h : Int) : opE mem solo (.slice s false true) [.sl id off n, .int k h] = if 0 ≤ h ∧ h ≤ (n : Int) then slE s (.sl id off h.toNat) (liveOf mem id) else none := by
  cases hl : liveOf mem id with
  | none =>
    have : opE mem solo (.slice s false true) [.sl id off n, .int k h] = none := by
      unfold opE; rw [if_neg]
      intro hh; have := hh.1; simp only [weff, hl] at this
    rw [this]; simp [slE]
  | some sx =>
    obtain ⟨s', xs⟩ := sx
    simp only [slE]
    rw [← if_and']
    refine opE_c ?_ (fun _ => by simp [effOf, hl, outE, effVal])
    simp only [weff, hl, effOf, Eff.quiet, isDef, List.all_cons, List.all_nil, Bool.true_and, Bool.and_true, Bool.true_or, and_true, true_and]
    exact ⟨fun ⟨h1, h2⟩ => ⟨h2, h1⟩, fun ⟨h2, h1⟩ => ⟨h1, h2⟩⟩
theorem o_max (k k' : IntKind) (a b : Int) : opE mem solo .max [.int k a, .int k' b] = some (.int k (if b > a then b else a), none) := opE_t (by simp [weff, effOf, Eff.quiet, isDef]) rfl
theorem o_min (k k' : IntKind) (a b : Int) : opE mem solo .min [.int k a, .int k' b] = some (.int k (if b < a then b else a), none) := opE_t (by simp [weff, effOf, Eff.quiet, isDef]) rfl
end
end Go.Abs
namespace Go.Abs
open Go Go.RowKit
theorem w_i64 (n : Int) (h : -9223372036854775808 ≤ n ∧ n ≤ 9223372036854775807) : IntKind.i64.wrap n = n := by rw [IntKind.wrap_i64]; omega
theorem bytes_ext' {a b : ByteArray} (h : a.toList = b.toList) : a = b := by
  rw [ByteArray.toList_eq, ByteArray.toList_eq] at h
  exact ByteArray.ext (Array.toList_inj.1 h)
section
variable {T : FuncId → Option EF} {mem : Mem} {s : St} {b : Nat}
theorem stp_val (q : Bool) (s : St) (dst : Option Nat) (v : AV) : stp q s dst (v, none) = some (s.put dst v s.mem) := rfl
theorem stp_mem (s : St) (dst : Option Nat) (v : AV) (mem : Mem) : stp false s dst (v, some mem) = some (s.put dst v mem) := rfl
theorem nxt_n (f : St → Option (AX × St)) (s : St) : nxt f (.normal, s) = f s := rfl
theorem nxt_e (f : St → Option (AX × St)) (i : Nat) (s : St) : nxt f (.exit i, s) = some (.exit i, s) := rfl
theorem nxt_r (f : St → Option (AX × St)) (s : St) : nxt f (.ret, s) = some (.ret, s) := rfl
theorem out_n (id : Nat) (s : St) : outB id (.normal, s) = (.normal, s) := rfl
theorem out_r (id : Nat) (s : St) : outB id (.ret, s) = (.ret, s) := rfl
theorem out_e (id : Nat) (s : St) : outB id (.exit id, s) = (.normal, s) := by simp [outB]
theorem cnd_b (t : Bool) (x y : Option (AX × St)) : cnd (some t) x y = if t = true then x else y := rfl
theorem hk_mk (hd : List Vw) (e : List (Nat × AV)) (m : Mem) : headK b hd ⟨e, m⟩ = bnd (vwL b hd ⟨e, m⟩) fun s => some (.normal, s) := rfl
theorem lkE_mk (n : Nat) (js is : List Nat) (s : St) : lkE n js is s = if (js.map s.get).all (lkJ n (is.map s.get)) = true then some (.normal, s) else none := rfl
theorem lkJ_p (n : Nat) (is : List AV) (id i j : Nat) : lkJ n is (.ptr id i j) = (decide (id < n) && is.all (lkI id)) := rfl
theorem lkI_p (id id' i j : Nat) : lkI id (.ptr id' i j) = !(id' == id) := rfl
theorem isB (t : Bool) : isBool (.bool t) = some t := rfl
theorem boB (t : Bool) : boolOf (.bool t) = some t := rfl
theorem hide_eq (s : St) (ks : List Nat) (dst : Nat) (v : Bool) : hide s ks dst v = ⟨(dst, .bool v) :: ks.map (fun k => (k, .undef)) ++ s.env, s.mem⟩ := rfl
theorem ds_nil (gd : Option (Nat × Bool)) : dstsL gd [] = [] := rfl
theorem ds_op (gd : Option (Nat × Bool)) (k : K) (os : List Opd) (d : Nat) (solo : Bool) (l : List EI) : dstsL gd (.op k os (some d) solo :: l) = d :: dstsL gd l := by simp [dstsL, eraseL, eraseI]
theorem ds_op0 (gd : Option (Nat × Bool)) (k : K) (os : List Opd) (solo : Bool) (l : List EI) : dstsL gd (.op k os none solo :: l) = dstsL gd l := by simp [dstsL, eraseL, eraseI]
theorem ds_pc (gd : Option (Nat × Bool)) (g : Opd) (os : List Opd) (d : Nat) (solo : Bool) (l : List EI) : dstsL gd (.pc g os (some d) solo :: l) = d :: dstsL gd l := by simp [dstsL, eraseL, eraseI]
theorem ds_grp (gd : Option (Nat × Bool)) (t : Nat) (want : Bool) (G : List EI) (x d : Nat) (solo : Bool) (l : List EI) : dstsL gd (.grp t want G x d solo :: l) = dstsL none G ++ d :: dstsL gd l := by
  rw [dstsL_gd none (some (t, want)) G]
  simp [dstsL, eraseL, eraseI]
theorem g_mk (env : List (Nat × AV)) (mem : Mem) : St.get ⟨env, mem⟩ = lookA env := rfl
theorem mem_mk (env : List (Nat × AV)) (mem : Mem) : St.mem ⟨env, mem⟩ = mem := rfl
theorem env_mk (env : List (Nat × AV)) (mem : Mem) : St.env ⟨env, mem⟩ = env := rfl
theorem put_s (env : List (Nat × AV)) (mem mem' : Mem) (d : Nat) (v : AV) : St.put ⟨env, mem⟩ (some d) v mem' = ⟨(d, v) :: env, mem'⟩ := rfl
theorem put_n (env : List (Nat × AV)) (mem mem' : Mem) (v : AV) : St.put ⟨env, mem⟩ none v mem' = ⟨env, mem'⟩ := rfl
theorem lk_c (k : Nat) (v : AV) (r : List (Nat × AV)) (t : Nat) : lookA ((k, v) :: r) t = if k = t then v else lookA r t := rfl
theorem lk_n (t : Nat) : lookA [] t = .undef := rfl
theorem lv_0 (x : Option (Nat × List AV)) (r : Mem) : liveOf (x :: r) 0 = x := by simp [liveOf]
theorem lv_1 (x : Option (Nat × List AV)) (r : Mem) (n : Nat) : liveOf (x :: r) (n + 1) = liveOf r n := by simp [liveOf]
theorem od_t (E : Nat → AV) (t : Nat) : getOpd E (.tmp t) = E t := rfl
theorem od_c (E : Nat → AV) (v : AV) : getOpd E (.const v) = v := rfl
theorem rs_nil (s : St) : resE s [] = some [] := rfl
theorem rs_tmp (s : St) (t : Nat) (r : List RV) : resE s (.tmp t :: r) = bnd (resE s r) fun vs => some (s.get t :: vs) := rfl
noncomputable def rsc (s : St) (r : List RV) : AV × Option Mem → Option (List AV)
  | (v, none) => bnd (resE s r) fun vs => some (v :: vs)
  | _ => none
theorem rs_cell (s : St) (a : Nat) (k : K) (r : List RV) : resE s (.cell a k :: r) = bnd (opE s.mem false k [s.get a]) (rsc s r) := by
  show bnd _ _ = bnd _ _
  congr 1
theorem rsc_v (s : St) (r : List RV) (v : AV) : rsc s r (v, none) = bnd (resE s r) fun vs => some (v :: vs) := rfl
theorem fin_r (rs : List RV) (s : St) : finE b rs (.ret, s) = bnd (resE s rs) fun vs => finP b s.mem (oneRes vs) := rfl
theorem fin_n (rs : List RV) (s : St) : finE b rs (.normal, s) = bnd (resE s rs) fun vs => finP b s.mem (oneRes vs) := rfl
theorem one_0 : oneRes [] = .tup [] := rfl
theorem one_1 (v : AV) : oneRes [v] = v := rfl
theorem one_2 (v u : AV) (vs : List AV) : oneRes (v :: u :: vs) = .tup (v :: u :: vs) := rfl
theorem finP_0 (mem : Mem) (res : AV) : finP 0 mem res = if nodupNat (idsV (up (idx []) (liveOf mem) 4) res) = true then some (mapId (gp (idx []) (liveOf mem) 4) res, []) else none := rfl
def gpS (ρ : Nat → Option Nat) (live : Live) (D : Nat) (b : Bool) (i j : Nat) : Option Nat → Option (Nat × List AV) → AV
  | some k, _ => if b then .sl k i j else .ptr k i j
  | none, none => .undef
  | none, some (s, xs) => if b then (if i = 0 ∧ j ≤ xs.length then .own s (mapIdL (gp ρ live D) (xs.take j)) else .undef)
        else match xs with
          | [x] => if i = 0 ∧ j = 0 then .box (mapId (gp ρ live D) x) else .undef
          | _ => .undef
theorem gp_s (ρ : Nat → Option Nat) (live : Live) (D : Nat) (b : Bool) (id i j : Nat) : gp ρ live (D + 1) b id i j = gpS ρ live D b i j (ρ id) (live id) := by
  show (match ρ id with | some k => _ | none => _) = _
  cases ρ id with
  | some k => rfl
  | none => cases live id with
    | none => rfl
    | some sx => rfl
def gp0S (b : Bool) (i j : Nat) : Option Nat → AV
  | some k => if b then .sl k i j else .ptr k i j
  | none => .undef
theorem gp_0 (ρ : Nat → Option Nat) (live : Live) (b : Bool) (id i j : Nat) : gp ρ live 0 b id i j = gp0S b i j (ρ id) := by
  show (match ρ id with | some k => _ | none => _) = _
  cases ρ id <;> rfl
theorem gp0_k (k i j : Nat) : gp0S true i j (some k) = .sl k i j := rfl
theorem gp0_p (k i j : Nat) : gp0S false i j (some k) = .ptr k i j := rfl
theorem gp0_n (b : Bool) (i j : Nat) : gp0S b i j none = .undef := rfl
theorem gpS_k (ρ : Nat → Option Nat) (live : Live) (D k i j : Nat) (x : Option (Nat × List AV)) : gpS ρ live D true i j (some k) x = .sl k i j := rfl
theorem gpS_p (ρ : Nat → Option Nat) (live : Live) (D k i j : Nat) (x : Option (Nat × List AV)) : gpS ρ live D false i j (some k) x = .ptr k i j := rfl
theorem gpS_n (ρ : Nat → Option Nat) (live : Live) (D : Nat) (b : Bool) (i j : Nat) : gpS ρ live D b i j none none = .undef := rfl
theorem gpS_s (ρ : Nat → Option Nat) (live : Live) (D j s : Nat) (xs : List AV) : gpS ρ live D true 0 j none (some (s, xs)) = if j ≤ xs.length then .own s (mapIdL (gp ρ live D) (xs.take j)) else .undef := by simp [gpS]
theorem gpS_b (ρ : Nat → Option Nat) (live : Live) (D s : Nat) (x : AV) : gpS ρ live D false 0 0 none (some (s, [x])) = .box (mapId (gp ρ live D) x) := rfl
def upS (ρ : Nat → Option Nat) (live : Live) (D : Nat) (b : Bool) (id i j : Nat) : Option Nat → Option (Nat × List AV) → List Nat
  | some _, _ => []
  | none, none => []
  | none, some (_, xs) => if b then (if i = 0 ∧ j ≤ xs.length then id :: idsL (up ρ live D) (xs.take j) else [])
        else match xs with
          | [x] => if i = 0 ∧ j = 0 then id :: idsV (up ρ live D) x else []
          | _ => []
theorem up_s (ρ : Nat → Option Nat) (live : Live) (D : Nat) (b : Bool) (id i j : Nat) : up ρ live (D + 1) b id i j = upS ρ live D b id i j (ρ id) (live id) := by
  show (match ρ id with | some k => _ | none => _) = _
  cases ρ id with
  | some k => rfl
  | none => cases live id with
    | none => rfl
    | some sx => rfl
theorem upS_k (ρ : Nat → Option Nat) (live : Live) (D : Nat) (b : Bool) (id k i j : Nat) (x : Option (Nat × List AV)) : upS ρ live D b id i j (some k) x = [] := rfl
theorem upS_n (ρ : Nat → Option Nat) (live : Live) (D : Nat) (b : Bool) (id i j : Nat) : upS ρ live D b id i j none none = [] := rfl
theorem upS_s (ρ : Nat → Option Nat) (live : Live) (D id j s : Nat) (xs : List AV) : upS ρ live D true id 0 j none (some (s, xs)) = if j ≤ xs.length then id :: idsL (up ρ live D) (xs.take j) else [] := by simp [upS]
theorem upS_b (ρ : Nat → Option Nat) (live : Live) (D id s : Nat) (x : AV) : upS ρ live D false id 0 0 none (some (s, [x])) = id :: idsV (up ρ live D) x := rfl
theorem idx_n (id : Nat) : idx [] id = none := rfl
theorem idx_c (k : Nat) (ks : List Nat) (id : Nat) : idx (k :: ks) id = if k = id then some 0 else (idx ks id).map (· + 1) := rfl
theorem nd_n : nodupNat [] = true := rfl
theorem nd_c (x : Nat) (xs : List Nat) : nodupNat (x :: xs) = (!xs.contains x && nodupNat xs) := rfl
def inS (live : Live) (D : Nat) (b : Bool) (i j : Nat) : Option (Nat × List AV) → AV
  | none => .tup []
  | some (s, xs) => if b then (if i + j ≤ xs.length then .own s (mapIdL (inl live D) ((xs.drop i).take j)) else .tup [])
      else (if i < xs.length then .box (.agg ((mapId (inl live D) (xs.getD i .undef)).cells.drop j)) else .tup [])
theorem in_s (live : Live) (D : Nat) (b : Bool) (id i j : Nat) : inl live (D + 1) b id i j = inS live D b i j (live id) := by
  unfold inl
  show (match live id with | none => _ | some (s, xs) => _) = _
  cases live id <;> rfl
theorem inS_s (live : Live) (D i j s : Nat) (xs : List AV) : inS live D true i j (some (s, xs)) = if i + j ≤ xs.length then .own s (mapIdL (inl live D) ((xs.drop i).take j)) else .tup [] := rfl
theorem inS_p (live : Live) (D i j s : Nat) (xs : List AV) : inS live D false i j (some (s, xs)) = if i < xs.length then .box (.agg ((mapId (inl live D) (xs.getD i .undef)).cells.drop j)) else .tup [] := rfl
theorem pcE_f (call : CallF) (mem : Mem) (args : List AV) (f : FuncId) (caps : List AV) : pcE call mem args (.fn f caps) = if args.all isDef = true then pcF call mem f (args ++ caps) else none := rfl
theorem pcO_f (mem : Mem) (res : AV) : pcOut mem false (some (res, [])) = pcR mem res := rfl
theorem pcO_t (mem : Mem) (res : AV) : pcOut mem true (some (res, [])) = if (unro res).roFree = true then pcR mem (unro res) else none := rfl
theorem ad_n (mem : Mem) : addE mem [] = none := rfl
theorem ad_c (mem : Mem) (x : Option (Nat × List AV)) (l : List (Option (Nat × List AV))) : addE mem (x :: l) = some (mem ++ x :: l) := rfl
theorem b_add (k : IntKind) (x y : Int) : binV .add (.int k x) (.int k y) = some (.int k (k.wrap (x + y))) := by simp [binV, intBin]
theorem b_sub (k : IntKind) (x y : Int) : binV .sub (.int k x) (.int k y) = some (.int k (k.wrap (x - y))) := by simp [binV, intBin]
theorem b_mul (k : IntKind) (x y : Int) : binV .mul (.int k x) (.int k y) = some (.int k (k.wrap (x * y))) := by simp [binV, intBin]
theorem b_quo (k : IntKind) (x y : Int) : binV .quo (.int k x) (.int k y) = if y = 0 then none else some (.int k (k.wrap (x.tdiv y))) := by simp [binV, intBin]
theorem b_rem (k : IntKind) (x y : Int) : binV .rem (.int k x) (.int k y) = if y = 0 then none else some (.int k (x.tmod y)) := by simp [binV, intBin]
theorem b_eql (k : IntKind) (x y : Int) : binV .eql (.int k x) (.int k y) = some (.bool (decide (x = y))) := by
  have : (x == y) = decide (x = y) := by rw [Bool.eq_iff_iff]; simp
  simp [binV, intBin, this]
theorem b_neq (k : IntKind) (x y : Int) : binV .neq (.int k x) (.int k y) = some (.bool (!decide (x = y))) := by
  have : (x != y) = !decide (x = y) := by rw [Bool.eq_iff_iff]; simp
  simp [binV, intBin, this]
theorem b_lss (k : IntKind) (x y : Int) : binV .lss (.int k x) (.int k y) = some (.bool (decide (x < y))) := by simp [binV, intBin]
theorem b_leq (k : IntKind) (x y : Int) : binV .leq (.int k x) (.int k y) = some (.bool (decide (x ≤ y))) := by simp [binV, intBin]
theorem b_gtr (k : IntKind) (x y : Int) : binV .gtr (.int k x) (.int k y) = some (.bool (decide (y < x))) := by simp [binV, intBin]
theorem b_geq (k : IntKind) (x y : Int) : binV .geq (.int k x) (.int k y) = some (.bool (decide (y ≤ x))) := by simp [binV, intBin]
theorem b_sadd (x y : ByteArray) : binV .add (.str x) (.str y) = if ((x.size + y.size : Nat) : Int) ≤ 9223372036854775807 then some (.str (x ++ y)) else none := by
  show (if ((x.size + y.size : Nat) : Int) > IntKind.i64.max then none else some (AV.str (x ++ y))) = _
  have : IntKind.i64.max = 9223372036854775807 := by decide
  rw [this]
  by_cases h : ((x.size + y.size : Nat) : Int) ≤ 9223372036854775807
  · rw [if_pos h, if_neg (by omega)]
  · rw [if_neg h, if_pos (by omega)]
theorem str_eq (x y : ByteArray) : (x.toList == y.toList) = decide (x = y) := by
  rw [Bool.eq_iff_iff]
  simp only [beq_iff_eq, decide_eq_true_eq]
  exact ⟨fun h => bytes_ext' h, fun h => by rw [h]⟩
theorem b_seql (x y : ByteArray) : binV .eql (.str x) (.str y) = some (.bool (decide (x = y))) := by simp [binV, strBin, str_eq]
theorem b_sneq (x y : ByteArray) : binV .neq (.str x) (.str y) = some (.bool (!decide (x = y))) := by simp [binV, strBin, str_eq]
theorem q_nil : eqCells [] [] [] = some true := rfl
theorem q_cons (k : Nat) (ks : List Nat) (x y : AV) (xs ys : List AV) : eqCells (k :: ks) (x :: xs) (y :: ys) = bnd (eqCell k x y) fun e => bnd (eqCells ks xs ys) fun r => some (e && r) := by
  show (match eqCell k x y with | some e => _ | none => _) = _
  cases eqCell k x y with
  | none => rfl
  | some e => show (match eqCells ks xs ys with | some r => _ | none => _) = _; cases eqCells ks xs ys <;> rfl
theorem q_b (x y : Bool) : eqCell 0 (.bool x) (.bool y) = some (x == y) := rfl
theorem q_i (k : IntKind) (x y : Int) : eqCell 1 (.int k x) (.int k y) = some (decide (x = y)) := by
  have : (x == y) = decide (x = y) := by rw [Bool.eq_iff_iff]; simp
  simp [eqCell, this]
theorem q_s (x y : ByteArray) : eqCell 2 (.str x) (.str y) = some (decide (x = y)) := by simp [eqCell, str_eq]
theorem el_n (live : Live) (s : Nat) : elems live s .nil = some [] := rfl
theorem el_r (live : Live) (s s' : Nat) (xs : List AV) : elems live s (.ro s' xs) = if s' = s then some xs else none := rfl
def elS (s off n : Nat) : Option (Nat × List AV) → Option (List AV)
  | some (s', xs) => if off + n ≤ xs.length then (if s' = s ∧ ((xs.drop off).take n).all (fun x => x.cells.all noOwnC) = true then some ((xs.drop off).take n) else none) else none
  | none => none
theorem el_s (live : Live) (s id off n : Nat) : elems live s (.sl id off n) = elS s off n (live id) := by
  show (match live id with | some (s', xs) => _ | none => _) = _
  cases live id with
  | none => rfl
  | some sx =>
    obtain ⟨s', xs⟩ := sx
    simp only [elS]
    by_cases h1 : off + n ≤ xs.length
    · by_cases h2 : s' = s <;> simp [h1, h2]
    · rw [if_neg h1, if_neg]; exact fun h => h1 h.2.1
def apS (mem : Mem) (solo : Bool) (s bytes id off n : Nat) (es : List AV) : Option (Nat × List AV) → Option (AV × Option Mem)
  | some (s', xs) => if n ≤ xs.length ∧ (n + es.length) * bytes ≤ 140737488355328 then
        (if s' = s ∧ off = 0 ∧ es.all (fun x => x.cells.all (okC (liveOf mem))) = true ∧ solo = true then some (.sl mem.length 0 (xs.take n ++ es).length, some (mem.set id none ++ [some (s, xs.take n ++ es)])) else none) else none
  | none => none
theorem ap_s (solo : Bool) (s bytes id off n : Nat) (es : List AV) : apE mem solo s bytes (.sl id off n) es = apS mem solo s bytes id off n es (liveOf mem id) := by
  show (match liveOf mem id with | some (s', xs) => _ | none => _) = _
  cases liveOf mem id <;> rfl
theorem ap_0 (solo : Bool) (s bytes : Nat) : apE mem solo s bytes .nil [] = some (.nil, none) := rfl
theorem ap_1 (solo : Bool) (s bytes : Nat) (e : AV) (es : List AV) : apE mem solo s bytes .nil (e :: es) = if (e :: es).length * bytes ≤ 140737488355328 then some (.sl mem.length 0 (e :: es).length, some (mem ++ [some (s, e :: es)])) else none := rfl
theorem by_n : bytesOf [] = some [] := rfl
theorem by_c (n : Int) (r : List AV) : bytesOf (.int .u8 n :: r) = bnd (bytesOf r) fun l => some (UInt8.ofNat n.toNat :: l) := by
  show (match bytesOf r with | some l => _ | none => _) = _
  cases bytesOf r <;> rfl
theorem fl_n (cs : List AV) : fillA cs [] = some cs := rfl
theorem fl_c (cs : List AV) (off n : Nat) (v : AV) (r : List (Nat × Nat × AV)) : fillA cs ((off, n, v) :: r) = if v.cells.length = n ∧ off + n ≤ cs.length then fillA (setCells cs off v.cells) r else none := rfl
theorem us_n (live : Live) (ks : List Nat) (D : Nat) : usedM ks live D [] = [] := rfl
theorem us_c (live : Live) (ks : List Nat) (D id : Nat) (l : List Nat) : usedM ks live D (id :: l) = rowU (up (idx ks) live D) (live id) ++ usedM ks live D l := by simp [usedM]
theorem pk_e (live : Live) (ks : List Nat) (D : Nat) : packM ks live D = ks.map fun id => rowP (gp (idx ks) live D) (live id) := rfl
theorem c_cells_undef  : AV.cells (AV.undef) = [(AV.undef)] := rfl
theorem c_okV_undef (live : Live)  : okV live (AV.undef) = false := rfl
theorem c_okC_undef (live : Live)  : okC live (AV.undef) = false := rfl
theorem c_isDef_undef  : isDef (AV.undef) = false := rfl
theorem c_closed_undef  : closedC (AV.undef) = true := rfl
theorem c_unroC_undef  : unroC (AV.undef) = (AV.undef) := rfl
theorem c_unro_undef  : unro (AV.undef) = (AV.undef) := rfl
theorem c_unp1_undef (m : Nat)  : unp1 m (AV.undef) = ((AV.undef), []) := rfl
theorem c_unp2_undef (m : Nat)  : unp2 m (AV.undef) = ((AV.undef), []) := rfl
theorem c_unp_undef (m : Nat)  : unp m (AV.undef) = ((AV.undef), []) := rfl
theorem c_setC_undef  (o : Nat) (v : AV) : AV.setCell (AV.undef) o v = v := rfl
theorem c_setCs_undef  (o : Nat) (vs : List AV) : AV.setCells (AV.undef) o vs = vs.headD (AV.undef) := rfl
theorem c_idOf_undef  : idOf (AV.undef) = none := rfl
theorem c_coolA_undef  : coolA (AV.undef) = coolX (AV.undef) := rfl
theorem c_cells_one  : AV.cells (AV.one) = [(AV.one)] := rfl
theorem c_okV_one (live : Live)  : okV live (AV.one) = true := rfl
theorem c_okC_one (live : Live)  : okC live (AV.one) = true := rfl
theorem c_isDef_one  : isDef (AV.one) = true := rfl
theorem c_closed_one  : closedC (AV.one) = true := rfl
theorem c_unroC_one  : unroC (AV.one) = (AV.one) := rfl
theorem c_unro_one  : unro (AV.one) = (AV.one) := rfl
theorem c_unp1_one (m : Nat)  : unp1 m (AV.one) = ((AV.one), []) := rfl
theorem c_unp2_one (m : Nat)  : unp2 m (AV.one) = ((AV.one), []) := rfl
theorem c_unp_one (m : Nat)  : unp m (AV.one) = ((AV.one), []) := rfl
theorem c_setC_one  (o : Nat) (v : AV) : AV.setCell (AV.one) o v = v := rfl
theorem c_setCs_one  (o : Nat) (vs : List AV) : AV.setCells (AV.one) o vs = vs.headD (AV.one) := rfl
theorem c_idOf_one  : idOf (AV.one) = none := rfl
theorem c_coolA_one  : coolA (AV.one) = coolX (AV.one) := rfl
theorem c_cells_bool (b : Bool) : AV.cells (AV.bool b) = [(AV.bool b)] := rfl
theorem c_okV_bool (live : Live) (b : Bool) : okV live (AV.bool b) = true := rfl
theorem c_okC_bool (live : Live) (b : Bool) : okC live (AV.bool b) = true := rfl
theorem c_isDef_bool (b : Bool) : isDef (AV.bool b) = true := rfl
theorem c_closed_bool (b : Bool) : closedC (AV.bool b) = true := rfl
theorem c_unroC_bool (b : Bool) : unroC (AV.bool b) = (AV.bool b) := rfl
theorem c_unro_bool (b : Bool) : unro (AV.bool b) = (AV.bool b) := rfl
theorem c_unp1_bool (m : Nat) (b : Bool) : unp1 m (AV.bool b) = ((AV.bool b), []) := rfl
theorem c_unp2_bool (m : Nat) (b : Bool) : unp2 m (AV.bool b) = ((AV.bool b), []) := rfl
theorem c_unp_bool (m : Nat) (b : Bool) : unp m (AV.bool b) = ((AV.bool b), []) := rfl
theorem c_setC_bool (b : Bool) (o : Nat) (v : AV) : AV.setCell (AV.bool b) o v = v := rfl
theorem c_setCs_bool (b : Bool) (o : Nat) (vs : List AV) : AV.setCells (AV.bool b) o vs = vs.headD (AV.bool b) := rfl
theorem c_idOf_bool (b : Bool) : idOf (AV.bool b) = none := rfl
theorem c_coolA_bool (b : Bool) : coolA (AV.bool b) = coolX (AV.bool b) := rfl
theorem c_cells_int (k : IntKind) (n : Int) : AV.cells (AV.int k n) = [(AV.int k n)] := rfl
theorem c_okV_int (live : Live) (k : IntKind) (n : Int) : okV live (AV.int k n) = true := rfl
theorem c_okC_int (live : Live) (k : IntKind) (n : Int) : okC live (AV.int k n) = true := rfl
theorem c_isDef_int (k : IntKind) (n : Int) : isDef (AV.int k n) = true := rfl
theorem c_closed_int (k : IntKind) (n : Int) : closedC (AV.int k n) = true := rfl
theorem c_unroC_int (k : IntKind) (n : Int) : unroC (AV.int k n) = (AV.int k n) := rfl
theorem c_unro_int (k : IntKind) (n : Int) : unro (AV.int k n) = (AV.int k n) := rfl
theorem c_unp1_int (m : Nat) (k : IntKind) (n : Int) : unp1 m (AV.int k n) = ((AV.int k n), []) := rfl
theorem c_unp2_int (m : Nat) (k : IntKind) (n : Int) : unp2 m (AV.int k n) = ((AV.int k n), []) := rfl
theorem c_unp_int (m : Nat) (k : IntKind) (n : Int) : unp m (AV.int k n) = ((AV.int k n), []) := rfl
theorem c_setC_int (k : IntKind) (n : Int) (o : Nat) (v : AV) : AV.setCell (AV.int k n) o v = v := rfl
theorem c_setCs_int (k : IntKind) (n : Int) (o : Nat) (vs : List AV) : AV.setCells (AV.int k n) o vs = vs.headD (AV.int k n) := rfl
theorem c_idOf_int (k : IntKind) (n : Int) : idOf (AV.int k n) = none := rfl
theorem c_coolA_int (k : IntKind) (n : Int) : coolA (AV.int k n) = coolX (AV.int k n) := rfl
theorem c_cells_str (s : ByteArray) : AV.cells (AV.str s) = [(AV.str s)] := rfl
theorem c_okV_str (live : Live) (s : ByteArray) : okV live (AV.str s) = true := rfl
theorem c_okC_str (live : Live) (s : ByteArray) : okC live (AV.str s) = true := rfl
theorem c_isDef_str (s : ByteArray) : isDef (AV.str s) = true := rfl
theorem c_closed_str (s : ByteArray) : closedC (AV.str s) = true := rfl
theorem c_unroC_str (s : ByteArray) : unroC (AV.str s) = (AV.str s) := rfl
theorem c_unro_str (s : ByteArray) : unro (AV.str s) = (AV.str s) := rfl
theorem c_unp1_str (m : Nat) (s : ByteArray) : unp1 m (AV.str s) = ((AV.str s), []) := rfl
theorem c_unp2_str (m : Nat) (s : ByteArray) : unp2 m (AV.str s) = ((AV.str s), []) := rfl
theorem c_unp_str (m : Nat) (s : ByteArray) : unp m (AV.str s) = ((AV.str s), []) := rfl
theorem c_setC_str (s : ByteArray) (o : Nat) (v : AV) : AV.setCell (AV.str s) o v = v := rfl
theorem c_setCs_str (s : ByteArray) (o : Nat) (vs : List AV) : AV.setCells (AV.str s) o vs = vs.headD (AV.str s) := rfl
theorem c_idOf_str (s : ByteArray) : idOf (AV.str s) = none := rfl
theorem c_coolA_str (s : ByteArray) : coolA (AV.str s) = coolX (AV.str s) := rfl
theorem c_cells_agg (cs : List AV) : AV.cells (AV.agg cs) = cs := rfl
theorem c_okV_agg (live : Live) (cs : List AV) : okV live (AV.agg cs) = true := rfl
theorem c_okC_agg (live : Live) (cs : List AV) : okC live (AV.agg cs) = false := rfl
theorem c_isDef_agg (cs : List AV) : isDef (AV.agg cs) = true := rfl
theorem c_closed_agg (cs : List AV) : closedC (AV.agg cs) = false := rfl
theorem c_unroC_agg (cs : List AV) : unroC (AV.agg cs) = (AV.agg cs) := rfl
theorem c_unro_agg (cs : List AV) : unro (AV.agg cs) = .agg (cs.map unroC) := rfl
theorem c_unp1_agg (m : Nat) (cs : List AV) : unp1 m (AV.agg cs) = ((AV.agg cs), []) := rfl
theorem c_unp2_agg (m : Nat) (cs : List AV) : unp2 m (AV.agg cs) = (.agg (unpL m cs).1, (unpL m cs).2) := rfl
theorem c_unp_agg (m : Nat) (cs : List AV) : unp m (AV.agg cs) = (.agg (unpL m cs).1, (unpL m cs).2) := rfl
theorem c_setC_agg (cs : List AV) (o : Nat) (v : AV) : AV.setCell (AV.agg cs) o v = .agg (cs.set o v) := rfl
theorem c_setCs_agg (cs : List AV) (o : Nat) (vs : List AV) : AV.setCells (AV.agg cs) o vs = .agg (Abs.setCells cs o vs) := rfl
theorem c_idOf_agg (cs : List AV) : idOf (AV.agg cs) = none := rfl
theorem c_coolA_agg (cs : List AV) : coolA (AV.agg cs) = coolX (AV.agg cs) := rfl
theorem c_cells_tup (cs : List AV) : AV.cells (AV.tup cs) = [(AV.tup cs)] := rfl
theorem c_okV_tup (live : Live) (cs : List AV) : okV live (AV.tup cs) = false := rfl
theorem c_okC_tup (live : Live) (cs : List AV) : okC live (AV.tup cs) = false := rfl
theorem c_isDef_tup (cs : List AV) : isDef (AV.tup cs) = true := rfl
theorem c_closed_tup (cs : List AV) : closedC (AV.tup cs) = false := rfl
theorem c_unroC_tup (cs : List AV) : unroC (AV.tup cs) = (AV.tup cs) := rfl
theorem c_unro_tup (cs : List AV) : unro (AV.tup cs) = .tup (cs.map fun x => match x with | .agg ds => .agg (ds.map unroC) | v => unroC v) := rfl
theorem c_unp1_tup (m : Nat) (cs : List AV) : unp1 m (AV.tup cs) = ((AV.tup cs), []) := rfl
theorem c_unp2_tup (m : Nat) (cs : List AV) : unp2 m (AV.tup cs) = ((AV.tup cs), []) := rfl
theorem c_unp_tup (m : Nat) (cs : List AV) : unp m (AV.tup cs) = (.tup (unpL2 m cs).1, (unpL2 m cs).2) := rfl
theorem c_setC_tup (cs : List AV) (o : Nat) (v : AV) : AV.setCell (AV.tup cs) o v = v := rfl
theorem c_setCs_tup (cs : List AV) (o : Nat) (vs : List AV) : AV.setCells (AV.tup cs) o vs = vs.headD (AV.tup cs) := rfl
theorem c_idOf_tup (cs : List AV) : idOf (AV.tup cs) = none := rfl
theorem c_coolA_tup (cs : List AV) : coolA (AV.tup cs) = coolX (AV.tup cs) := rfl
theorem c_cells_nil  : AV.cells (AV.nil) = [(AV.nil)] := rfl
theorem c_okV_nil (live : Live)  : okV live (AV.nil) = true := rfl
theorem c_okC_nil (live : Live)  : okC live (AV.nil) = true := rfl
theorem c_isDef_nil  : isDef (AV.nil) = true := rfl
theorem c_closed_nil  : closedC (AV.nil) = true := rfl
theorem c_unroC_nil  : unroC (AV.nil) = (AV.nil) := rfl
theorem c_unro_nil  : unro (AV.nil) = (AV.nil) := rfl
theorem c_unp1_nil (m : Nat)  : unp1 m (AV.nil) = ((AV.nil), []) := rfl
theorem c_unp2_nil (m : Nat)  : unp2 m (AV.nil) = ((AV.nil), []) := rfl
theorem c_unp_nil (m : Nat)  : unp m (AV.nil) = ((AV.nil), []) := rfl
theorem c_setC_nil  (o : Nat) (v : AV) : AV.setCell (AV.nil) o v = v := rfl
theorem c_setCs_nil  (o : Nat) (vs : List AV) : AV.setCells (AV.nil) o vs = vs.headD (AV.nil) := rfl
theorem c_idOf_nil  : idOf (AV.nil) = none := rfl
theorem c_coolA_nil  : coolA (AV.nil) = coolX (AV.nil) := rfl
theorem c_cells_ro (s : Nat) (xs : List AV) : AV.cells (AV.ro s xs) = [(AV.ro s xs)] := rfl
theorem c_okV_ro (live : Live) (s : Nat) (xs : List AV) : okV live (AV.ro s xs) = true := rfl
theorem c_okC_ro (live : Live) (s : Nat) (xs : List AV) : okC live (AV.ro s xs) = true := rfl
theorem c_isDef_ro (s : Nat) (xs : List AV) : isDef (AV.ro s xs) = true := rfl
theorem c_closed_ro (s : Nat) (xs : List AV) : closedC (AV.ro s xs) = true := rfl
theorem c_unroC_ro (s : Nat) (xs : List AV) : unroC (AV.ro s xs) = .one := rfl
theorem c_unro_ro (s : Nat) (xs : List AV) : unro (AV.ro s xs) = .one := rfl
theorem c_unp1_ro (m : Nat) (s : Nat) (xs : List AV) : unp1 m (AV.ro s xs) = ((AV.ro s xs), []) := rfl
theorem c_unp2_ro (m : Nat) (s : Nat) (xs : List AV) : unp2 m (AV.ro s xs) = ((AV.ro s xs), []) := rfl
theorem c_unp_ro (m : Nat) (s : Nat) (xs : List AV) : unp m (AV.ro s xs) = ((AV.ro s xs), []) := rfl
theorem c_setC_ro (s : Nat) (xs : List AV) (o : Nat) (v : AV) : AV.setCell (AV.ro s xs) o v = v := rfl
theorem c_setCs_ro (s : Nat) (xs : List AV) (o : Nat) (vs : List AV) : AV.setCells (AV.ro s xs) o vs = vs.headD (AV.ro s xs) := rfl
theorem c_idOf_ro (s : Nat) (xs : List AV) : idOf (AV.ro s xs) = none := rfl
theorem c_coolA_ro (s : Nat) (xs : List AV) : coolA (AV.ro s xs) = coolX (AV.ro s xs) := rfl
theorem c_cells_own (s : Nat) (xs : List AV) : AV.cells (AV.own s xs) = [(AV.own s xs)] := rfl
theorem c_okV_own (live : Live) (s : Nat) (xs : List AV) : okV live (AV.own s xs) = true := rfl
theorem c_okC_own (live : Live) (s : Nat) (xs : List AV) : okC live (AV.own s xs) = true := rfl
theorem c_isDef_own (s : Nat) (xs : List AV) : isDef (AV.own s xs) = true := rfl
theorem c_closed_own (s : Nat) (xs : List AV) : closedC (AV.own s xs) = false := rfl
theorem c_unroC_own (s : Nat) (xs : List AV) : unroC (AV.own s xs) = (AV.own s xs) := rfl
theorem c_unro_own (s : Nat) (xs : List AV) : unro (AV.own s xs) = (AV.own s xs) := rfl
theorem c_unp1_own (m : Nat) (s : Nat) (xs : List AV) : unp1 m (AV.own s xs) = (.sl m 0 xs.length, [some (s, xs)]) := rfl
theorem c_unp2_own (m : Nat) (s : Nat) (xs : List AV) : unp2 m (AV.own s xs) = (.sl m 0 xs.length, [some (s, xs)]) := rfl
theorem c_unp_own (m : Nat) (s : Nat) (xs : List AV) : unp m (AV.own s xs) = (.sl m 0 xs.length, [some (s, xs)]) := rfl
theorem c_setC_own (s : Nat) (xs : List AV) (o : Nat) (v : AV) : AV.setCell (AV.own s xs) o v = v := rfl
theorem c_setCs_own (s : Nat) (xs : List AV) (o : Nat) (vs : List AV) : AV.setCells (AV.own s xs) o vs = vs.headD (AV.own s xs) := rfl
theorem c_idOf_own (s : Nat) (xs : List AV) : idOf (AV.own s xs) = none := rfl
theorem c_coolA_own (s : Nat) (xs : List AV) : coolA (AV.own s xs) = coolX (AV.own s xs) := rfl
theorem c_cells_sl (id off n : Nat) : AV.cells (AV.sl id off n) = [(AV.sl id off n)] := rfl
theorem c_okV_sl (live : Live) (id off n : Nat) : okV live (AV.sl id off n) = (live id).isSome := rfl
theorem c_okC_sl (live : Live) (id off n : Nat) : okC live (AV.sl id off n) = (live id).isSome := rfl
theorem c_isDef_sl (id off n : Nat) : isDef (AV.sl id off n) = true := rfl
theorem c_closed_sl (id off n : Nat) : closedC (AV.sl id off n) = false := rfl
theorem c_unroC_sl (id off n : Nat) : unroC (AV.sl id off n) = (AV.sl id off n) := rfl
theorem c_unro_sl (id off n : Nat) : unro (AV.sl id off n) = (AV.sl id off n) := rfl
theorem c_unp1_sl (m : Nat) (id off n : Nat) : unp1 m (AV.sl id off n) = ((AV.sl id off n), []) := rfl
theorem c_unp2_sl (m : Nat) (id off n : Nat) : unp2 m (AV.sl id off n) = ((AV.sl id off n), []) := rfl
theorem c_unp_sl (m : Nat) (id off n : Nat) : unp m (AV.sl id off n) = ((AV.sl id off n), []) := rfl
theorem c_setC_sl (id off n : Nat) (o : Nat) (v : AV) : AV.setCell (AV.sl id off n) o v = v := rfl
theorem c_setCs_sl (id off n : Nat) (o : Nat) (vs : List AV) : AV.setCells (AV.sl id off n) o vs = vs.headD (AV.sl id off n) := rfl
theorem c_idOf_sl (id off n : Nat) : idOf (AV.sl id off n) = some id := rfl
theorem c_coolA_sl (id off n : Nat) : coolA (AV.sl id off n) = coolX (AV.sl id off n) := rfl
theorem c_cells_ptr (id i j : Nat) : AV.cells (AV.ptr id i j) = [(AV.ptr id i j)] := rfl
theorem c_okV_ptr (live : Live) (id i j : Nat) : okV live (AV.ptr id i j) = (live id).isSome := rfl
theorem c_okC_ptr (live : Live) (id i j : Nat) : okC live (AV.ptr id i j) = (live id).isSome := rfl
theorem c_isDef_ptr (id i j : Nat) : isDef (AV.ptr id i j) = true := rfl
theorem c_closed_ptr (id i j : Nat) : closedC (AV.ptr id i j) = false := rfl
theorem c_unroC_ptr (id i j : Nat) : unroC (AV.ptr id i j) = (AV.ptr id i j) := rfl
theorem c_unro_ptr (id i j : Nat) : unro (AV.ptr id i j) = (AV.ptr id i j) := rfl
theorem c_unp1_ptr (m : Nat) (id i j : Nat) : unp1 m (AV.ptr id i j) = ((AV.ptr id i j), []) := rfl
theorem c_unp2_ptr (m : Nat) (id i j : Nat) : unp2 m (AV.ptr id i j) = ((AV.ptr id i j), []) := rfl
theorem c_unp_ptr (m : Nat) (id i j : Nat) : unp m (AV.ptr id i j) = ((AV.ptr id i j), []) := rfl
theorem c_setC_ptr (id i j : Nat) (o : Nat) (v : AV) : AV.setCell (AV.ptr id i j) o v = v := rfl
theorem c_setCs_ptr (id i j : Nat) (o : Nat) (vs : List AV) : AV.setCells (AV.ptr id i j) o vs = vs.headD (AV.ptr id i j) := rfl
theorem c_idOf_ptr (id i j : Nat) : idOf (AV.ptr id i j) = some id := rfl
theorem c_coolA_ptr (id i j : Nat) : coolA (AV.ptr id i j) = coolX (AV.ptr id i j) := rfl
theorem c_cells_rop (cs : List AV) : AV.cells (AV.rop cs) = [(AV.rop cs)] := rfl
theorem c_okV_rop (live : Live) (cs : List AV) : okV live (AV.rop cs) = true := rfl
theorem c_okC_rop (live : Live) (cs : List AV) : okC live (AV.rop cs) = true := rfl
theorem c_isDef_rop (cs : List AV) : isDef (AV.rop cs) = true := rfl
theorem c_closed_rop (cs : List AV) : closedC (AV.rop cs) = true := rfl
theorem c_unroC_rop (cs : List AV) : unroC (AV.rop cs) = .one := rfl
theorem c_unro_rop (cs : List AV) : unro (AV.rop cs) = .one := rfl
theorem c_unp1_rop (m : Nat) (cs : List AV) : unp1 m (AV.rop cs) = ((AV.rop cs), []) := rfl
theorem c_unp2_rop (m : Nat) (cs : List AV) : unp2 m (AV.rop cs) = ((AV.rop cs), []) := rfl
theorem c_unp_rop (m : Nat) (cs : List AV) : unp m (AV.rop cs) = ((AV.rop cs), []) := rfl
theorem c_setC_rop (cs : List AV) (o : Nat) (v : AV) : AV.setCell (AV.rop cs) o v = v := rfl
theorem c_setCs_rop (cs : List AV) (o : Nat) (vs : List AV) : AV.setCells (AV.rop cs) o vs = vs.headD (AV.rop cs) := rfl
theorem c_idOf_rop (cs : List AV) : idOf (AV.rop cs) = none := rfl
theorem c_coolA_rop (cs : List AV) : coolA (AV.rop cs) = coolX (AV.rop cs) := rfl
theorem c_cells_box (x : AV) : AV.cells (AV.box x) = [(AV.box x)] := rfl
theorem c_okV_box (live : Live) (x : AV) : okV live (AV.box x) = true := rfl
theorem c_okC_box (live : Live) (x : AV) : okC live (AV.box x) = true := rfl
theorem c_isDef_box (x : AV) : isDef (AV.box x) = true := rfl
theorem c_closed_box (x : AV) : closedC (AV.box x) = false := rfl
theorem c_unroC_box (x : AV) : unroC (AV.box x) = (AV.box x) := rfl
theorem c_unro_box (x : AV) : unro (AV.box x) = (AV.box x) := rfl
theorem c_unp1_box (m : Nat) (x : AV) : unp1 m (AV.box x) = (.ptr m 0 0, [some (x.cells.length, [x])]) := rfl
theorem c_unp2_box (m : Nat) (x : AV) : unp2 m (AV.box x) = (.ptr m 0 0, [some (x.cells.length, [x])]) := rfl
theorem c_unp_box (m : Nat) (x : AV) : unp m (AV.box x) = (.ptr m 0 0, [some (x.cells.length, [x])]) := rfl
theorem c_setC_box (x : AV) (o : Nat) (v : AV) : AV.setCell (AV.box x) o v = v := rfl
theorem c_setCs_box (x : AV) (o : Nat) (vs : List AV) : AV.setCells (AV.box x) o vs = vs.headD (AV.box x) := rfl
theorem c_idOf_box (x : AV) : idOf (AV.box x) = none := rfl
theorem c_coolA_box (x : AV) : coolA (AV.box x) = coolX (AV.box x) := rfl
theorem c_cells_fn (f : FuncId) (cs : List AV) : AV.cells (AV.fn f cs) = [(AV.fn f cs)] := rfl
theorem c_okV_fn (live : Live) (f : FuncId) (cs : List AV) : okV live (AV.fn f cs) = true := rfl
theorem c_okC_fn (live : Live) (f : FuncId) (cs : List AV) : okC live (AV.fn f cs) = true := rfl
theorem c_isDef_fn (f : FuncId) (cs : List AV) : isDef (AV.fn f cs) = true := rfl
theorem c_unroC_fn (f : FuncId) (cs : List AV) : unroC (AV.fn f cs) = (AV.fn f cs) := rfl
theorem c_unro_fn (f : FuncId) (cs : List AV) : unro (AV.fn f cs) = (AV.fn f cs) := rfl
theorem c_unp1_fn (m : Nat) (f : FuncId) (cs : List AV) : unp1 m (AV.fn f cs) = ((AV.fn f cs), []) := rfl
theorem c_unp2_fn (m : Nat) (f : FuncId) (cs : List AV) : unp2 m (AV.fn f cs) = ((AV.fn f cs), []) := rfl
theorem c_unp_fn (m : Nat) (f : FuncId) (cs : List AV) : unp m (AV.fn f cs) = ((AV.fn f cs), []) := rfl
theorem c_setC_fn (f : FuncId) (cs : List AV) (o : Nat) (v : AV) : AV.setCell (AV.fn f cs) o v = v := rfl
theorem c_setCs_fn (f : FuncId) (cs : List AV) (o : Nat) (vs : List AV) : AV.setCells (AV.fn f cs) o vs = vs.headD (AV.fn f cs) := rfl
theorem c_idOf_fn (f : FuncId) (cs : List AV) : idOf (AV.fn f cs) = none := rfl
theorem c_coolA_fn (f : FuncId) (cs : List AV) : coolA (AV.fn f cs) = cs.all coolX := rfl
theorem c_closed_fn (f : FuncId) : closedC (.fn f []) = true := rfl
theorem c_closed_fn1 (f : FuncId) (x : AV) (cs : List AV) : closedC (.fn f (x :: cs)) = false := rfl
theorem c_noOwn_undef  : noOwnC (AV.undef) = true := rfl
theorem c_noOwn_one  : noOwnC (AV.one) = true := rfl
theorem c_uok1_undef  : unpOk1 (AV.undef) = true := rfl
theorem c_uok1_one  : unpOk1 (AV.one) = true := rfl
theorem c_uok2_undef  : unpOk2 (AV.undef) = true := rfl
theorem c_uok2_one  : unpOk2 (AV.one) = true := rfl
theorem c_uok_undef  : unpOk (AV.undef) = true := rfl
theorem c_uok_one  : unpOk (AV.one) = true := rfl
theorem c_rf_undef  : AV.roFree (AV.undef) = true := rfl
theorem c_rf_one  : AV.roFree (AV.one) = true := rfl
theorem c_noOwn_bool (b : Bool) : noOwnC (AV.bool b) = true := rfl
theorem c_uok1_bool (b : Bool) : unpOk1 (AV.bool b) = true := rfl
theorem c_uok2_bool (b : Bool) : unpOk2 (AV.bool b) = true := rfl
theorem c_uok_bool (b : Bool) : unpOk (AV.bool b) = true := rfl
theorem c_rf_bool (b : Bool) : AV.roFree (AV.bool b) = true := rfl
theorem c_noOwn_int (k : IntKind) (n : Int) : noOwnC (AV.int k n) = true := rfl
theorem c_uok1_int (k : IntKind) (n : Int) : unpOk1 (AV.int k n) = true := rfl
theorem c_uok2_int (k : IntKind) (n : Int) : unpOk2 (AV.int k n) = true := rfl
theorem c_uok_int (k : IntKind) (n : Int) : unpOk (AV.int k n) = true := rfl
theorem c_rf_int (k : IntKind) (n : Int) : AV.roFree (AV.int k n) = true := rfl
theorem c_noOwn_str (s : ByteArray) : noOwnC (AV.str s) = true := rfl
theorem c_uok1_str (s : ByteArray) : unpOk1 (AV.str s) = true := rfl
theorem c_uok2_str (s : ByteArray) : unpOk2 (AV.str s) = true := rfl
theorem c_uok_str (s : ByteArray) : unpOk (AV.str s) = true := rfl
theorem c_rf_str (s : ByteArray) : AV.roFree (AV.str s) = true := rfl
theorem c_noOwn_nil  : noOwnC (AV.nil) = true := rfl
theorem c_uok1_nil  : unpOk1 (AV.nil) = true := rfl
theorem c_uok2_nil  : unpOk2 (AV.nil) = true := rfl
theorem c_uok_nil  : unpOk (AV.nil) = true := rfl
theorem c_rf_nil  : AV.roFree (AV.nil) = true := rfl
theorem c_noOwn_ro (s : Nat) (xs : List AV) : noOwnC (AV.ro s xs) = true := rfl
theorem c_uok1_ro (s : Nat) (xs : List AV) : unpOk1 (AV.ro s xs) = true := rfl
theorem c_uok2_ro (s : Nat) (xs : List AV) : unpOk2 (AV.ro s xs) = true := rfl
theorem c_uok_ro (s : Nat) (xs : List AV) : unpOk (AV.ro s xs) = true := rfl
theorem c_rf_ro (s : Nat) (xs : List AV) : AV.roFree (AV.ro s xs) = xs.isEmpty := rfl
theorem c_noOwn_sl (id off n : Nat) : noOwnC (AV.sl id off n) = true := rfl
theorem c_uok1_sl (id off n : Nat) : unpOk1 (AV.sl id off n) = true := rfl
theorem c_uok2_sl (id off n : Nat) : unpOk2 (AV.sl id off n) = true := rfl
theorem c_uok_sl (id off n : Nat) : unpOk (AV.sl id off n) = true := rfl
theorem c_rf_sl (id off n : Nat) : AV.roFree (AV.sl id off n) = true := rfl
theorem c_noOwn_ptr (id i j : Nat) : noOwnC (AV.ptr id i j) = true := rfl
theorem c_uok1_ptr (id i j : Nat) : unpOk1 (AV.ptr id i j) = true := rfl
theorem c_uok2_ptr (id i j : Nat) : unpOk2 (AV.ptr id i j) = true := rfl
theorem c_uok_ptr (id i j : Nat) : unpOk (AV.ptr id i j) = true := rfl
theorem c_rf_ptr (id i j : Nat) : AV.roFree (AV.ptr id i j) = true := rfl
theorem c_noOwn_rop (cs : List AV) : noOwnC (AV.rop cs) = true := rfl
theorem c_uok1_rop (cs : List AV) : unpOk1 (AV.rop cs) = true := rfl
theorem c_uok2_rop (cs : List AV) : unpOk2 (AV.rop cs) = true := rfl
theorem c_uok_rop (cs : List AV) : unpOk (AV.rop cs) = true := rfl
theorem c_rf_rop (cs : List AV) : AV.roFree (AV.rop cs) = false := rfl
theorem c_noOwn_own (s : Nat) (xs : List AV) : noOwnC (AV.own s xs) = false := rfl
theorem c_uok1_own (s : Nat) (xs : List AV) : unpOk1 (AV.own s xs) = true := rfl
theorem c_uok2_own (s : Nat) (xs : List AV) : unpOk2 (AV.own s xs) = true := rfl
theorem c_uok_own (s : Nat) (xs : List AV) : unpOk (AV.own s xs) = true := rfl
theorem c_noOwn_box (x : AV) : noOwnC (AV.box x) = false := rfl
theorem c_uok1_box (x : AV) : unpOk1 (AV.box x) = true := rfl
theorem c_uok2_box (x : AV) : unpOk2 (AV.box x) = true := rfl
theorem c_uok_box (x : AV) : unpOk (AV.box x) = true := rfl
theorem c_noOwn_agg (cs : List AV) : noOwnC (.agg cs) = false := rfl
theorem c_noOwn_tup (cs : List AV) : noOwnC (.tup cs) = false := rfl
theorem c_noOwn_fn (f : FuncId) : noOwnC (.fn f []) = true := rfl
theorem c_uok_fn (f : FuncId) : unpOk (.fn f []) = true := rfl
theorem c_uok2_agg (cs : List AV) : unpOk2 (.agg cs) = cs.all unpOk1 := rfl
theorem c_uok_agg (cs : List AV) : unpOk (.agg cs) = cs.all unpOk1 := rfl
theorem c_uok_tup (cs : List AV) : unpOk (.tup cs) = cs.all unpOk2 := rfl
theorem c_rf_agg (cs : List AV) : AV.roFree (.agg cs) = roFreeL cs := rfl
theorem c_rf_tup (cs : List AV) : AV.roFree (.tup cs) = roFreeL cs := rfl
theorem c_rf_own (s : Nat) (xs : List AV) : AV.roFree (.own s xs) = roFreeL xs := rfl
theorem c_lay_nil (t sz : Nat) (s : St) : layE t sz s .nil = some ⟨(t, .sl s.mem.length 0 0) :: s.env, s.mem ++ [some (sz, [])]⟩ := rfl
theorem c_lay_sl (t sz : Nat) (s : St) (id off n : Nat) : layE t sz s (.sl id off n) = some s := rfl
theorem c_opn_nil (s : St) (id i j sz s0 : Nat) (xs : List AV) : opnC s id i j sz s0 xs .nil = some ⟨s.env, s.mem.set id (some (s0, xs.set i ((xs.getD i .undef).setCell j (.sl s.mem.length 0 0)))) ++ [some (sz, [])]⟩ := rfl
theorem c_opn_sl (s : St) (id i j sz s0 : Nat) (xs : List AV) (a b c : Nat) : opnC s id i j sz s0 xs (.sl a b c) = some s := rfl
theorem c_opn_own (s : St) (id i j sz s0 : Nat) (xs : List AV) (s' : Nat) (ys : List AV) : opnC s id i j sz s0 xs (.own s' ys) = some ⟨s.env, s.mem.set id (some (s0, xs.set i ((xs.getD i .undef).setCell j (.sl s.mem.length 0 ys.length)))) ++ [some (s', ys)]⟩ := rfl
theorem c_bas_p (s : St) (id i j : Nat) : baseE s (.ptr id i j) none = some (id, i, j) := rfl
theorem mi_map {α : Type} (g : Bool → Nat → Nat → Nat → AV) (f : α → AV) (l : List α) (h : ∀ x, coolX (f x) = true) : mapIdL g (l.map f) = l.map f := by
  rw [mapIdL_map, List.map_map]
  exact List.map_congr_left (fun x _ => ((cool_ids g (fun _ _ _ _ => []) (f x)).2 (h x)).1)
theorem is_map {α : Type} (u : Bool → Nat → Nat → Nat → List Nat) (f : α → AV) (l : List α) (h : ∀ x, coolX (f x) = true) : idsL u (l.map f) = [] := by
  rw [idsL_map, List.flatMap_map]
  induction l with
  | nil => rfl
  | cons x l ih => rw [List.flatMap_cons, ih, ((cool_ids (fun _ _ _ _ => .undef) u (f x)).2 (h x)).2]; rfl
theorem mi_set (g : Bool → Nat → Nat → Nat → AV) (l : List AV) (i : Nat) (x : AV) : mapIdL g (l.set i x) = (mapIdL g l).set i (mapId g x) := by rw [mapIdL_map, mapIdL_map, List.map_set]
theorem mi_app (g : Bool → Nat → Nat → Nat → AV) (l r : List AV) : mapIdL g (l ++ r) = mapIdL g l ++ mapIdL g r := by rw [mapIdL_map, mapIdL_map, mapIdL_map, List.map_append]
theorem mi_take (g : Bool → Nat → Nat → Nat → AV) (l : List AV) (n : Nat) : mapIdL g (l.take n) = (mapIdL g l).take n := by rw [mapIdL_map, mapIdL_map, List.map_take]
theorem mi_drop (g : Bool → Nat → Nat → Nat → AV) (l : List AV) (n : Nat) : mapIdL g (l.drop n) = (mapIdL g l).drop n := by rw [mapIdL_map, mapIdL_map, List.map_drop]
theorem mi_rep (g : Bool → Nat → Nat → Nat → AV) (n : Nat) (x : AV) : mapIdL g (List.replicate n x) = List.replicate n (mapId g x) := by rw [mapIdL_map, List.map_replicate]
theorem is_app (u : Bool → Nat → Nat → Nat → List Nat) (l r : List AV) : idsL u (l ++ r) = idsL u l ++ idsL u r := by rw [idsL_map, idsL_map, idsL_map, List.flatMap_append]
theorem is_rep (u : Bool → Nat → Nat → Nat → List Nat) (n : Nat) (x : AV) (h : idsV u x = []) : idsL u (List.replicate n x) = [] := by
  rw [idsL_map]
  refine List.eq_nil_iff_forall_not_mem.2 fun y hy => ?_
  obtain ⟨z, hz, hz'⟩ := List.mem_flatMap.1 hy
  rw [List.eq_of_mem_replicate hz, h] at hz'; cases hz'
theorem is_sub (u : Bool → Nat → Nat → Nat → List Nat) (l r : List AV) (h : ∀ x ∈ r, x ∈ l) (hl : idsL u l = []) : idsL u r = [] := by
  rw [idsL_map] at hl ⊢
  refine List.eq_nil_iff_forall_not_mem.2 fun y hy => ?_
  obtain ⟨z, hz, hz'⟩ := List.mem_flatMap.1 hy
  have : y ∈ l.flatMap (idsV u) := List.mem_flatMap.2 ⟨z, h z hz, hz'⟩
  rw [hl] at this; cases this
theorem is_take (u : Bool → Nat → Nat → Nat → List Nat) (l : List AV) (n : Nat) (h : idsL u l = []) : idsL u (l.take n) = [] := is_sub u l _ (fun _ hx => List.mem_of_mem_take hx) h
theorem is_drop (u : Bool → Nat → Nat → Nat → List Nat) (l : List AV) (n : Nat) (h : idsL u l = []) : idsL u (l.drop n) = [] := is_sub u l _ (fun _ hx => List.mem_of_mem_drop hx) h
theorem is_set (u : Bool → Nat → Nat → Nat → List Nat) (l : List AV) (i : Nat) (x : AV) (h : idsL u l = []) : idsL u (l.set i x) = if i < l.length then idsV u x else [] := by
  by_cases hi : i < l.length
  · rw [if_pos hi, List.set_eq_take_append_cons_drop, if_pos hi, is_app, is_take u l i h]
    show [] ++ (idsV u x ++ idsL u (l.drop (i + 1))) = _
    rw [is_drop u l _ h]; simp
  · rw [if_neg hi, List.set_eq_of_length_le (by omega)]; exact h
theorem ice_m {α : Type} (f : α → AV) (l : List α) : iceL (l.map f) = l.map (fun x => ice (f x)) := by rw [iceL_map, List.map_map]; rfl
theorem coR_map {α : Type} (s : Nat) (f : α → AV) (l : List α) (h : ∀ x, (f x).cells.length = s) (h2 : ∀ x, coolX (f x) = true) : coolR s (l.map f) = true := by
  rw [coolR_all]
  refine ⟨fun y hy => ?_, fun y hy => ?_⟩ <;> (obtain ⟨x, _, rfl⟩ := List.mem_map.1 hy)
  · exact h x
  · exact h2 x
theorem rf_map {α : Type} (f : α → AV) (l : List α) (h : ∀ x, (f x).roFree = true) : roFreeL (l.map f) = true := by
  rw [roFreeL_all, List.all_map]; exact List.all_eq_true.2 fun x _ => h x
theorem no_map {α : Type} (f : α → AV) (l : List α) (h : ∀ x, (f x).cells.all noOwnC = true) : (l.map f).all (fun x => x.cells.all noOwnC) = true := by
  rw [List.all_map]; exact List.all_eq_true.2 fun x _ => h x
theorem gD_map {α : Type} {f : α → AV} {l : List α} {i : Nat} {x : α} (h : l[i]? = some x) : (l.map f).getD i .undef = f x := by
  rw [List.getD_eq_getElem?_getD, List.getElem?_map, h]; rfl
theorem tk_map {α : Type} (f : α → AV) (l : List α) : (l.map f).take l.length = l.map f := by rw [List.take_of_length_le]; simp
theorem tk_all {α : Type} (l : List α) : l.take l.length = l := List.take_length
theorem bnd_ite {α β : Type} {c : Prop} [Decidable c] (x y : Option α) (f : α → Option β) : bnd (if c then x else y) f = if c then bnd x f else bnd y f := by
  by_cases h : c <;> simp [h]
theorem sc_and (p : Bool) (x : Bool) : (if p = true then some x else some false) = some (p && x) := by cases p <;> simp
theorem sc_or (p : Bool) (x : Bool) : (if p = false then some x else some true) = some (p || x) := by cases p <;> simp
theorem qcE_f (c : CallF) (mem : Mem) (args : List AV) (f : FuncId) (caps : List AV) : qcE c mem args (.fn f caps) = if args.all isDef = true then qcOut (c f (args ++ caps) (none :: mem)) else none := rfl
theorem qcO_s (res : AV) : qcOut (some (res, [])) = some (res, none) := rfl
theorem scE_f (c : CallF) (mem : Mem) (args : List AV) (f : FuncId) (caps : List AV) : scE c mem args (.fn f caps) = if args.all isDef = true then scF c mem f (args ++ caps) else none := rfl
theorem scF_e (c : CallF) (mem : Mem) (f : FuncId) (args : List AV) : scF c mem f args = scK c mem f args (dedupN [] (idsL idU args)) := rfl
theorem scK_e (c : CallF) (mem : Mem) (f : FuncId) (args : List AV) (ks : List Nat) : scK c mem f args ks = if nodupNat ks = true then scS (fun small => scOut mem ks (c f (mapIdL (gp (idx ks) (liveOf mem) 0) args) small)) (xOut mem (c f args mem)) (lendR mem ks) else none := rfl
theorem dd_n (acc : List Nat) : dedupN acc [] = acc := rfl
theorem dd_c (acc : List Nat) (x : Nat) (xs : List Nat) : dedupN acc (x :: xs) = dedupN (addId acc (some x)) xs := rfl
theorem idU_e (b : Bool) (id i j : Nat) : idU b id i j = [id] := rfl
theorem lend_n (mem : Mem) : lendR mem [] = some [] := rfl
theorem lend_c (mem : Mem) (id : Nat) (ks : List Nat) : lendR mem (id :: ks) = lendO (lendR mem ks) (liveOf mem id) := rfl
theorem lend_o (r : Option Mem) (s : Nat) (xs : List AV) : lendO r (some (s, xs)) = if coolR s xs = true then bnd r fun l => some (some (s, xs) :: l) else none := rfl
theorem give_n (mem : Mem) : giveR mem [] [] = some mem := rfl
theorem give_c (mem : Mem) (id : Nat) (ks : List Nat) (s : Nat) (xs : List AV) (rs : Mem) : giveR mem (id :: ks) (some (s, xs) :: rs) = if coolR s xs = true then giveR (mem.set id (some (s, xs))) ks rs else none := rfl
theorem scS_s (k : Mem → Option (AV × Option Mem)) (w : Option (AV × Option Mem)) (small : Mem) : scS k w (some small) = k small := rfl
theorem scS_n (k : Mem → Option (AV × Option Mem)) (w : Option (AV × Option Mem)) : scS k w none = w := rfl
theorem xO_s (mem : Mem) (res : AV) (mem' : Mem) : xOut mem (some (res, mem')) = if xokT res = true ∧ mem'.length = mem.length then some (res, some mem') else none := rfl
theorem scO_s (mem : Mem) (ks : List Nat) (res : AV) (small : Mem) : scOut mem ks (some (res, small)) = if closedT res = true then bnd (giveR mem ks small) fun m => some (res, some m) else scSl mem ks small res := rfl
theorem scSl_s (mem : Mem) (ks : List Nat) (small : Mem) (k off n : Nat) : scSl mem ks small (.sl k off n) = if k < ks.length then bnd (giveR mem ks small) fun m => some (.sl (ks.getD k 0) off n, some m) else none := rfl
theorem scSl_t (mem : Mem) (ks : List Nat) (small : Mem) (k off n : Nat) (s : ByteArray) : scSl mem ks small (.tup [.sl k off n, .str s]) = if k < ks.length then bnd (giveR mem ks small) fun m => some (.tup [.sl (ks.getD k 0) off n, .str s], some m) else none := by
  unfold scSl
  have h : (AV.str s).closed = true := rfl
  simp only [h, and_true]
theorem ct_sl (k off n : Nat) : closedT (.sl k off n) = false := rfl
theorem ds_sc (gd : Option (Nat × Bool)) (g : Opd) (os : List Opd) (t : Nat) (solo : Bool) (l : List EI) : dstsL gd (.sc g os (some t) solo :: l) = t :: dstsL gd l := rfl
theorem finP_s (b : Nat) (mem : Mem) (res : AV) : finP (b + 1) mem res = if nodupNat (usedM (upto (b + 1)) (liveOf mem) 4 (upto (b + 1)) ++ idsV (up (idx (upto (b + 1))) (liveOf mem) 4) res) = true then some (mapId (gp (idx (upto (b + 1))) (liveOf mem) 4) res, packM (upto (b + 1)) (liveOf mem) 4) else none := rfl
end
theorem ct_t (cs : List AV) : closedT (.tup cs) = cs.all AV.closed := rfl
theorem xk_t (cs : List AV) : xokT (.tup cs) = cs.all xokV := rfl
theorem xk_b (b : Bool) : xokT (.bool b) = true := rfl
theorem xk_i (k : IntKind) (n : Int) : xokT (.int k n) = true := rfl
theorem xk_s (s : ByteArray) : xokT (.str s) = true := rfl
theorem xk_sl (id off n : Nat) : xokT (.sl id off n) = true := rfl
theorem xk_a (cs : List AV) : xokT (.agg cs) = cs.all xokC := rfl
theorem xv_a (cs : List AV) : xokV (.agg cs) = cs.all xokC := rfl
theorem xv_b (b : Bool) : xokV (.bool b) = true := rfl
theorem xv_i (k : IntKind) (n : Int) : xokV (.int k n) = true := rfl
theorem xv_s (s : ByteArray) : xokV (.str s) = true := rfl
theorem xv_sl (id off n : Nat) : xokV (.sl id off n) = true := rfl
theorem xc_b (b : Bool) : xokC (.bool b) = true := rfl
theorem xc_i (k : IntKind) (n : Int) : xokC (.int k n) = true := rfl
theorem xc_s (s : ByteArray) : xokC (.str s) = true := rfl
theorem xc_sl (id off n : Nat) : xokC (.sl id off n) = true := rfl
theorem xc_n : xokC .nil = true := rfl
theorem ox_n (s : St) (off sz : Nat) : opxR s off sz none = some s := rfl
theorem ox_s (s : St) (off sz id i : Nat) : opxR s off sz (some (id, i)) = opxL s id i off sz (liveOf s.mem id) := rfl
theorem ox_l (s : St) (id i off sz s0 : Nat) (xs : List AV) : opxL s id i off sz (some (s0, xs)) = if i < xs.length ∧ off < (xs.getD i .undef).cells.length then opnC s id i off sz s0 xs ((xs.getD i .undef).cells.getD off .undef) else some s := rfl
theorem ox_t (c : Int) (id o n : Nat) (k : IntKind) (v : Int) : opxT c (.sl id o n) (.int k v) = if 0 ≤ v + c then some (id, o + (v + c).toNat) else none := rfl
theorem ox_e {c : Prop} [Decidable c] (s : St) (off sz : Nat) (a b : Option (Nat × Nat)) : opxR s off sz (if c then a else b) = if c then opxR s off sz a else opxR s off sz b := by split <;> rfl
theorem ox_i (mem : Mem) (id off n : Nat) (k : IntKind) (p : Int) : idxV mem (.sl id off n) (.int k p) = cellAt mem id (off + p.toNat) 0 := rfl
theorem ct_b (b : Bool) : closedT (.bool b) = true := rfl
theorem ct_i (k : IntKind) (n : Int) : closedT (.int k n) = true := rfl
theorem ct_s (s : ByteArray) : closedT (.str s) = true := rfl
theorem wd_one (v : AV) : wid .one v = v := by simp only [wid]
theorem wd_map (l : List AV) : l.map (wid .one) = l := by
  induction l with
  | nil => rfl
  | cons x xs ih => rw [List.map_cons, ih, wd_one]
theorem wd_rn (s : Nat) (e : Wd) : wid (.row s e) .nil = .own s [] := by simp only [wid]
theorem wd_ro (s s' : Nat) (e : Wd) (xs : List AV) : wid (.row s e) (.own s' xs) = .own s' (xs.map (wid e)) := by simp only [wid]
theorem wd_rs (s : Nat) (e : Wd) (id off n : Nat) : wid (.row s e) (.sl id off n) = .sl id off n := by simp only [wid]
theorem wd_rr (s s' : Nat) (e : Wd) (xs : List AV) : wid (.row s e) (.ro s' xs) = .ro s' xs := by simp only [wid]
theorem wd_xn (s : Nat) : wid (.rrow s) .nil = .ro s [] := by simp only [wid]
theorem wd_xr (s s' : Nat) (xs : List AV) : wid (.rrow s) (.ro s' xs) = .ro s' xs := by simp only [wid]
theorem wd_xo (s s' : Nat) (xs : List AV) : wid (.rrow s) (.own s' xs) = .own s' xs := by simp only [wid]
theorem wd_ag (ws : List Wd) (cs : List AV) : wid (.agg ws) (.agg cs) = .agg (widL ws cs) := by simp only [wid]
theorem wd_tu (ws : List Wd) (cs : List AV) : wid (.agg ws) (.tup cs) = .tup (widL ws cs) := by simp only [wid]
theorem wd_ln (cs : List AV) : widL [] cs = cs := by simp only [widL]
theorem wd_lc (w : Wd) (ws : List Wd) (c : AV) (cs : List AV) : widL (w :: ws) (c :: cs) = wid w c :: widL ws cs := by simp only [widL]
attribute [go_sem] xk_t xk_b xk_i xk_s xk_sl xk_a xv_a xv_b xv_i xv_s xv_sl xc_b xc_i xc_s xc_sl xc_n ox_n ox_s ox_l ox_t ox_i ox_e ct_t ct_b ct_i ct_s wd_one wd_map wd_rn wd_ro wd_rs wd_rr wd_xn wd_xr wd_xo wd_ag wd_tu wd_ln wd_lc finW_some finW_none finW_ite
attribute [go_sem] opX isUmv ox_mv o_nilckr qcE_f qcO_s XI_scq scS_s scS_n xO_s scE_f scF_e scK_e dd_n dd_c idU_e lend_n lend_c lend_o give_n give_c scO_s scSl_s scSl_t ct_sl ds_sc finP_s hk_mk XR_nil XR_cons XI_op XI_pc XI_sc XI_grp XI_grw X_skip X_exit X_ret X_region X_regL lkE_mk lkJ_p lkI_p X_seq X_cond X_block X_view X_loop bnd_some bnd_none
  stp_val stp_mem nxt_n nxt_e nxt_r out_n out_r out_e cnd_b isB boB hide_eq ds_nil ds_op ds_op0 ds_pc ds_grp g_mk mem_mk env_mk put_s put_n lk_c lk_n lv_0 lv_1 od_t od_c
  rs_nil rs_tmp rs_cell rsc_v fin_r fin_n one_0 one_1 one_2 finP_0 gp_s gp_0 gp0_k gp0_p gp0_n gpS_k gpS_p gpS_n gpS_s gpS_b up_s upS_k upS_n upS_s upS_b idx_n idx_c nd_n nd_c in_s inS_s inS_p
  pcE_f pcF pcO_f pcO_t pcR ad_n ad_c b_add b_sub b_mul b_quo b_rem b_eql b_neq b_lss b_leq b_gtr b_geq b_sadd b_seql b_sneq q_nil q_cons q_b q_i q_s el_n el_r el_s elS ap_s ap_0 ap_1 apS by_n by_c fl_n fl_c
  us_n us_c pk_e rowP rowU vwL vwE rootsE addId rootId cellAt upto tidyE baseV baseE opnR keepE
  o_mv o_box o_alloc o_build o_bslice0 o_bslice o_load1p o_load1r o_loadNp o_loadNr o_store1 o_storeN o_clear clE o_copy cpE fgtR o_faddrp o_faddrr o_iaddrs o_iaddrr o_field1 o_fieldN o_idxStr o_lenn o_lenr o_lens o_lenStr o_append o_mkslice
  o_bin o_binB o_eqs o_not o_neg o_conv o_mkfn o_ext o_b2s o_nilck o_sslh o_ssl o_ssh o_srlh o_srl o_srh o_sslh' o_ssl' o_ssh' o_max o_min ld1 ld1c ldN ldNc st1 stN iaE slE
  mapId mapIdL idsV idsL coolC coolX coolL coolR ice iceL iceC frz unpL unpL2 roFreeL AV.closed setCells c_cells_one c_cells_undef c_okV_one c_okV_undef c_okC_one c_okC_undef c_isDef_one c_isDef_undef c_closed_one c_closed_undef c_unroC_one c_unroC_undef c_unro_one c_unro_undef c_unp1_one c_unp1_undef c_unp2_one c_unp2_undef c_unp_one c_unp_undef c_setC_one c_setC_undef c_setCs_one c_setCs_undef c_idOf_one c_idOf_undef c_coolA_one c_coolA_undef c_cells_bool c_okV_bool c_okC_bool c_isDef_bool c_closed_bool c_unroC_bool c_unro_bool c_unp1_bool c_unp2_bool c_unp_bool c_setC_bool c_setCs_bool c_idOf_bool c_coolA_bool c_cells_int c_okV_int c_okC_int c_isDef_int c_closed_int c_unroC_int c_unro_int c_unp1_int c_unp2_int c_unp_int c_setC_int c_setCs_int c_idOf_int c_coolA_int c_cells_str c_okV_str c_okC_str c_isDef_str c_closed_str c_unroC_str c_unro_str c_unp1_str c_unp2_str c_unp_str c_setC_str c_setCs_str c_idOf_str c_coolA_str c_cells_agg c_okV_agg c_okC_agg c_isDef_agg c_closed_agg c_unroC_agg c_unro_agg c_unp1_agg c_unp2_agg c_unp_agg c_setC_agg c_setCs_agg c_idOf_agg c_coolA_agg c_cells_tup c_okV_tup c_okC_tup c_isDef_tup c_closed_tup c_unroC_tup c_unro_tup c_unp1_tup c_unp2_tup c_unp_tup c_setC_tup c_setCs_tup c_idOf_tup c_coolA_tup c_cells_nil c_okV_nil c_okC_nil c_isDef_nil c_closed_nil c_unroC_nil c_unro_nil c_unp1_nil c_unp2_nil c_unp_nil c_setC_nil c_setCs_nil c_idOf_nil c_coolA_nil c_cells_ro c_okV_ro c_okC_ro c_isDef_ro c_closed_ro c_unroC_ro c_unro_ro c_unp1_ro c_unp2_ro c_unp_ro c_setC_ro c_setCs_ro c_idOf_ro c_coolA_ro c_cells_own c_okV_own c_okC_own c_isDef_own c_closed_own c_unroC_own c_unro_own c_unp1_own c_unp2_own c_unp_own c_setC_own c_setCs_own c_idOf_own c_coolA_own c_cells_sl c_okV_sl c_okC_sl c_isDef_sl c_closed_sl c_unroC_sl c_unro_sl c_unp1_sl c_unp2_sl c_unp_sl c_setC_sl c_setCs_sl c_idOf_sl c_coolA_sl c_cells_ptr c_okV_ptr c_okC_ptr c_isDef_ptr c_closed_ptr c_unroC_ptr c_unro_ptr c_unp1_ptr c_unp2_ptr c_unp_ptr c_setC_ptr c_setCs_ptr c_idOf_ptr c_coolA_ptr c_cells_rop c_okV_rop c_okC_rop c_isDef_rop c_closed_rop c_unroC_rop c_unro_rop c_unp1_rop c_unp2_rop c_unp_rop c_setC_rop c_setCs_rop c_idOf_rop c_coolA_rop c_cells_box c_okV_box c_okC_box c_isDef_box c_closed_box c_unroC_box c_unro_box c_unp1_box c_unp2_box c_unp_box c_setC_box c_setCs_box c_idOf_box c_coolA_box c_cells_fn c_okV_fn c_okC_fn c_isDef_fn c_unroC_fn c_unro_fn c_unp1_fn c_unp2_fn c_unp_fn c_setC_fn c_setCs_fn c_idOf_fn c_coolA_fn c_closed_fn c_closed_fn1 c_noOwn_one c_noOwn_undef c_uok1_one c_uok1_undef c_uok2_one c_uok2_undef c_uok_one c_uok_undef c_rf_one c_rf_undef c_noOwn_bool c_uok1_bool c_uok2_bool c_uok_bool c_rf_bool c_noOwn_int c_uok1_int c_uok2_int c_uok_int c_rf_int c_noOwn_str c_uok1_str c_uok2_str c_uok_str c_rf_str c_noOwn_nil c_uok1_nil c_uok2_nil c_uok_nil c_rf_nil c_noOwn_ro c_uok1_ro c_uok2_ro c_uok_ro c_rf_ro c_noOwn_sl c_uok1_sl c_uok2_sl c_uok_sl c_rf_sl c_noOwn_ptr c_uok1_ptr c_uok2_ptr c_uok_ptr c_rf_ptr c_noOwn_rop c_uok1_rop c_uok2_rop c_uok_rop c_rf_rop c_noOwn_own c_uok1_own c_uok2_own c_uok_own c_noOwn_box c_uok1_box c_uok2_box c_uok_box c_noOwn_agg c_noOwn_tup c_noOwn_fn c_uok_fn c_uok2_agg c_uok_agg c_uok_tup c_rf_agg c_rf_tup c_rf_own c_lay_nil c_lay_sl c_opn_nil c_opn_sl c_opn_own c_bas_p
  mi_map is_map mi_set mi_app mi_take mi_drop mi_rep is_app ice_m coR_map rf_map no_map enumA sc_and sc_or
  List.map_cons List.map_nil List.nil_append List.cons_append List.append_nil List.length_nil List.length_cons List.length_map List.length_set List.length_append List.length_replicate List.length_take List.length_drop List.length_reverse
  List.getD_cons_zero List.getD_cons_succ List.set_cons_zero List.set_cons_succ List.take_succ_cons List.take_zero List.drop_succ_cons List.drop_zero List.all_cons List.all_nil List.zip_cons_cons List.zip_nil_left List.foldl_cons List.foldl_nil
  List.zipWith_cons_cons List.zipWith_nil_left List.contains_cons List.contains_nil List.replicate_succ
  Option.map_some Option.map_none Option.isSome_some Option.isSome_none Option.getD_some Option.getD_none
  if_true if_false ite_true ite_false
  Nat.zero_add Nat.add_zero Nat.sub_zero Nat.zero_le Nat.le_refl
  Bool.not_true Bool.not_false Bool.true_and Bool.and_true Bool.false_and Bool.and_false Bool.and_self Bool.true_or Bool.or_true Bool.false_or Bool.or_false Bool.not_not
  Int.toNat_natCast decide_eq_true_eq and_true true_and and_self Bool.false_eq_true eq_self_iff_true Bool.true_eq_false implies_true tk_map tk_all
end Go.Abs
namespace Go.Abs
open Go Go.RowKit Go.ChangeShapes
section
variable {H : Type} {enc : TypeId × Value → H} {P : Program} {W : World} {n : Nat}
def IsA (shp : Shp) (av : AV) : Prop := ∃ avs, Is shp avs ∧ av = shp.elem avs
theorem arg_rel {t : TypeId} {shp : Shp} {v : Value} {d : DataW H} {p : List MemPlace} {base : Nat} {sp : Nat → Bool} {held : Bool} (hs : shpOf P n t = some shp) (hok : Value.okWide P W .any base t v)
    (ht : DataW.Trod enc P W 0 sp held t v d p) : ∃ av, IsA shp av ∧ RelV W m0 d0 (fun _ => False) av v [] := by
  obtain ⟨fuel, ht⟩ := ht
  obtain ⟨avs, h1, h2, h3, h4⟩ := read_sound n hs ht
  refine ⟨_, ⟨avs, h1, rfl⟩, ?_⟩
  have single : ∀ {v : Value}, (∃ c, v.cells = #[c] ∧ v = c) → RelL W m0 d0 (fun _ => False) avs v.cells.toList [] → (∀ x, avs = [x] → shp.elem avs = x) → avs.length = 1 → RelV W m0 d0 (fun _ => False) (shp.elem avs) v [] := by
    rintro v ⟨c, hc, rfl⟩ h3 he hl
    match avs, hl with
    | [x], _ =>
      rw [he x rfl]
      rw [hc] at h3
      exact RelL.head h3
  cases n with
  | zero => simp [shpOf] at hs
  | succ n =>
    unfold shpOf at hs
    unfold Value.okWide at hok
    split at hs
    · rename_i hu
      rw [hu] at hok
      simp only [Cell.okWide, Cell.ok, hu] at hok
      split at hs
      · rename_i hc; cases hs
        cases v <;> simp at hok
        exact single ⟨_, rfl, rfl⟩ h3 (fun x e => by subst e; rfl) (by omega)
      · cases hs
    · rename_i k hu
      rw [hu] at hok
      simp only [Cell.okWide, Cell.ok, hu] at hok
      split at hs
      · rename_i hc; cases hs
        cases v <;> simp at hok
        exact single ⟨_, rfl, rfl⟩ h3 (fun x e => by subst e; rfl) (by omega)
      · cases hs
    · rename_i hu
      rw [hu] at hok
      simp only [Cell.okWide, Cell.ok, hu] at hok
      split at hs
      · rename_i hc; cases hs
        cases v <;> simp at hok
        exact single ⟨_, rfl, rfl⟩ h3 (fun x e => by subst e; rfl) (by omega)
      · cases hs
    · rename_i e hu
      rw [hu] at hok
      simp only [Cell.okWide, Cell.ok, hu] at hok
      split at hs
      · rename_i hc
        simp only [Option.map_eq_some_iff] at hs
        obtain ⟨se, _, rfl⟩ := hs
        cases v <;> simp at hok
        exact single ⟨_, rfl, rfl⟩ h3 (fun x e => by subst e; rfl) (by omega)
      · cases hs
    · rename_i fs hu
      rw [hu] at hok
      split at hs
      · simp only [Option.map_eq_some_iff] at hs
        obtain ⟨shps, _, rfl⟩ := hs
        obtain ⟨cs, rfl, _, _⟩ := hok
        exact .agg h3
      · cases hs
    · cases hs
inductive IsAs : List Shp → List AV → Prop
  | nil : IsAs [] []
  | cons {s : Shp} {a : AV} {ss : List Shp} {as : List AV} (h : IsA s a) (t : IsAs ss as) : IsAs (s :: ss) (a :: as)
theorem args_rel : ∀ {ts : List TypeId} {shps : List Shp} {vs : List Value} {ds : List (DataW H)} {ps : List MemPlace} {base : Nat} {sp : Nat → Bool} {held : Bool}, ts.mapM (shpOf P n) = some shps →
    (∀ (j : Nat) t v, ts[j]? = some t → vs[j]? = some v → Value.okWide P W .any base t v) → DataW.TrodAll enc P W 0 sp held ts vs ds ps → ∃ avs, IsAs shps avs ∧ RelL W m0 d0 (fun _ => False) avs vs [] := by
  intro ts
  induction ts with
  | nil =>
    intro shps vs ds ps base sp held h _ ht
    obtain ⟨rfl, _, _⟩ := trodAll_nil ht
    simp at h; subst h
    exact ⟨[], .nil, .nil⟩
  | cons t ts ih =>
    intro shps vs ds ps base sp held h hok ht
    obtain ⟨v, vs', d, ds', p, q, rfl, rfl, rfl, h1, h2⟩ := trodAll_cons ht
    simp only [List.mapM_cons, Option.bind_eq_bind, Option.pure_def] at h
    cases e1 : shpOf P n t with
    | none => simp [e1] at h
    | some s =>
      cases e2 : ts.mapM (shpOf P n) with
      | none => simp [e1, e2] at h
      | some ss =>
        simp [e1, e2] at h
        subst h
        obtain ⟨av, a1, a2⟩ := arg_rel e1 (hok 0 t v rfl rfl) h1
        obtain ⟨avs, b1, b2⟩ := ih e2 (fun j t v h1 h2 => hok (j + 1) t v (by simpa using h1) (by simpa using h2)) h2
        exact ⟨_, .cons a1 b1, .cons (F := []) a2 b2⟩
theorem trodAll_stays (hl : laidOutB P = true) {W' : World} {sp : Nat → Bool} (hb : Below W.heap.size W W') : ∀ {ts : List TypeId} {vs : List Value} {ds : List (DataW H)} {ps : List MemPlace},
    (∀ t ∈ ts, P.readableRec t = true ∧ t < P.types.size) → DataW.TrodAll enc P W 0 (fun _ => true) true ts vs ds ps → (∀ x ∈ ps, x.block < W.heap.size ∧ sp x.block = true) → DataW.TrodAll enc P W' 0 sp true ts vs ds ps := by
  intro ts
  induction ts with
  | nil => intro vs ds ps _ h _; obtain ⟨rfl, rfl, rfl⟩ := trodAll_nil h; exact trodAll_mk0
  | cons t ts ih =>
    intro vs ds ps ht h hx
    obtain ⟨v, vs', d, ds', p, q, rfl, rfl, rfl, h1, h2⟩ := trodAll_cons h
    obtain ⟨k1, k2⟩ := ht t (List.mem_cons_self ..)
    exact ⟨p, q, WideElems.Trod_stays hl k1 k2 h1 (fun x hp => hb.same (hx x (List.mem_append_left _ hp)).1) (fun x hp => (hx x (List.mem_append_left _ hp)).2),
      ih (fun u hu => ht u (List.mem_cons_of_mem _ hu)) h2 (fun x hp => hx x (List.mem_append_right _ hp)), rfl⟩
theorem trod_len {w : World} {base : Nat} {sp : Nat → Bool} {held : Bool} : ∀ {ts : List TypeId} {vs : List Value} {ds : List (DataW H)} {ps : List MemPlace}, DataW.TrodAll enc P w base sp held ts vs ds ps → ds.length = ts.length := by
  intro ts
  induction ts with
  | nil => intro vs ds ps h; obtain ⟨_, rfl, _⟩ := trodAll_nil h; rfl
  | cons t ts ih => intro vs ds ps h; obtain ⟨v, vs', d, ds', p, q, rfl, rfl, rfl, _, h2⟩ := trodAll_cons h; simp [ih h2]
theorem row_calls {f : FuncId} {shps : List Shp} (hE : ∀ avs, IsAs shps avs → ACalls P f avs (.bool true)) {ts : List TypeId} {args : Array Value} {ds : List (DataW H)} {ps : List MemPlace} {base : Nat} {sp : Nat → Bool} {held : Bool}
    (hs : ts.mapM (shpOf P n) = some shps) (hok : ∀ (j : Nat) t v, ts[j]? = some t → args[j]? = some v → Value.okWide P W .any base t v) (ht : DataW.TrodAll enc P W 0 sp held ts args.toList ds ps) :
    Calls P f args W fun e W' => e = .returned (.bool true) ∧ Below W.heap.size W W' := by
  obtain ⟨avs, h1, h2⟩ := args_rel hs (fun j t v h1 h2 => hok j t v h1 (by simpa using h2)) ht
  have := hE avs h1 (fun _ => False) W args.toList h2
  have e : args.toList.toArray = args := by simp
  rw [e] at this
  refine Calls.mono this (fun e W' he => ?_)
  cases e with
  | returned v =>
    obtain ⟨F, _, _, hv, hw⟩ := he
    refine ⟨?_, hw.below⟩
    cases hv; rfl
  | panicked c => exact he.elim
  | outgrown => exact he.elim
theorem row_post {f : Func} {s : ChangeSpec} {apart fresh handsOn again : Bool} {W' : World} {args : Array Value} {tb : TypeId} {ds gs : List (DataW H)} {before : List MemPlace} (hl : laidOutB P = true)
    (hts : ∀ t ∈ f.params.toList, P.readableRec t = true ∧ t < P.types.size) (hvars : s.vars = []) (hres : f.resultTypes.toList = [tb]) (htb : P.underlying tb = some .bool)
    (hsp : s.fn H ds = { results := [.lit (.bool true)], args := ds })
    (hW : DataW.Whole enc P f.params.toList s.vars apart W args.toList ds gs before) (hb : Below W.heap.size W W') : s.post enc P f apart fresh handsOn again W args (.bool true) W' := by
  have hlt : ∀ p ∈ before, p.block < W.heap.size := fun p hp => hW.lt p hp
  have hold : ∀ p ∈ before, (fun b => decide (b < W.heap.size)) p.block = true := fun p hp => by simpa using hlt p hp
  have hWhole := hW
  obtain ⟨p, q, hA, hV, rfl, hz, hn⟩ := hW
  rw [hvars] at hV
  have hgq : gs = [] ∧ q = [] := by
    cases gs with
    | nil => exact ⟨rfl, hV⟩
    | cons g gs => exact hV.elim
  obtain ⟨rfl, rfl⟩ := hgq
  simp only [List.append_nil] at hlt hold hz hn hWhole
  have hspec := hsp
  have hsize : f.resultTypes.size = 1 := by have := congrArg List.length hres; simpa using this
  have hr : ∀ (b : Nat) (sp : Nat → Bool) (hd : Bool), DataW.TrodAll enc P W' b sp hd f.resultTypes.toList ((Value.bool true).resultList f.resultTypes.size) (s.fn H (ds ++ [])).results [] := by
    intro b sp hd
    rw [hres, hsize, List.append_nil, hspec]
    refine trodAll_mk1 ⟨1, ?_⟩
    simp [Value.cells, DataW.trod, htb]
  have ha : ∀ sp : Nat → Bool, (∀ x ∈ p, sp x.block = true) → DataW.TrodAll enc P W' 0 sp true f.params.toList args.toList (s.fn H (ds ++ [])).args p := by
    intro sp hsp'
    rw [List.append_nil, hspec]
    exact trodAll_stays hl hb hts hA (fun x hx => ⟨hlt x hx, hsp' x hx⟩)
  have hv : ∀ sp : Nat → Bool, DataW.TrodVars enc P W' sp s.vars (s.fn H (ds ++ [])).vars [] := by
    intro sp
    rw [List.append_nil, hspec, hvars]
    exact rfl
  refine ⟨ds, [], p, [], p, [], hWhole, hr _ _ _, ha _ hold, hv _, World.keptBut_mono (fun x hx => ⟨hx, .inr (.inl hx)⟩) (hb.frame (· ∈ p)), fun _ => ?_⟩
  refine ⟨fun j t r hj hr' => ?_, _, _, ([] ++ p) ++ [], ⟨[] ++ p, [], trodAll_append (ha _ (fun _ _ => rfl)) (hr _ _ _), hv _, rfl, ?_, ?_⟩, ?_⟩
  · have hj' : f.resultTypes.toList[j]? = some t := by simpa using hj
    rw [hres] at hj'
    have h0 : j = 0 := by
      have := (List.getElem?_eq_some_iff.1 hj').1
      simp at this; exact this
    subst h0
    simp at hj'; subst hj'
    rw [hsize] at hr'
    have : r = .bool true := by simpa [Value.resultList] using hr'.symm
    subst this
    simp [Value.okWide, Cell.okWide, Cell.ok, htb]
  · intro b off hp
    have hin : MemPlace.cell b off ∈ p := by simpa using hp
    rw [hb.frozen (hlt _ hin)]
    exact hz b off hin
  · intro ha
    simpa using hn ha
  · intro x hx _
    simpa using hx
end
end Go.Abs
namespace Go.Abs
open Go Go.RowKit
section
variable {T : FuncId → Option EF} {b : Nat}
def Stops (o : Option (AX × St)) (Φ : AX × St → Prop) : Prop := ∃ r, o = some r ∧ r.1 ≠ .normal ∧ Φ r
theorem Stops.mk {r : AX × St} {Φ : AX × St → Prop} (h : r.1 ≠ .normal) (hΦ : Φ r) : Stops (some r) Φ := ⟨r, rfl, h, hΦ⟩
theorem XL_inv {hd : List Vw} {x : EC} {β : Type} (S : Nat → β → St) (I : Nat → β → Prop) (n : Nat) (Φ : AX × St → Prop)
    (step : ∀ i a, i < n → I i a → (∃ a', XG T b hd x (S i a) = some (.normal, S (i + 1) a') ∧ I (i + 1) a') ∨ Stops (XG T b hd x (S i a)) Φ)
    (last : ∀ a, I n a → Stops (XG T b hd x (S n a)) Φ) : ∀ i a, i ≤ n → I i a → ∃ r, XL T b hd x (S i a) = some r ∧ r.1 ≠ .normal ∧ Φ r := by
  have out : ∀ {s : St}, Stops (XG T b hd x s) Φ → ∃ r, XL T b hd x s = some r ∧ r.1 ≠ .normal ∧ Φ r := fun ⟨r, h1, h2, h3⟩ => ⟨r, XL_out h1 h2, h2, h3⟩
  have key : ∀ k i a, i + k = n → I i a → ∃ r, XL T b hd x (S i a) = some r ∧ r.1 ≠ .normal ∧ Φ r := by
    intro k
    induction k with
    | zero => intro i a hi hI; have : i = n := by omega
              subst this; exact out (last a hI)
    | succ k ih =>
      intro i a hi hI
      rcases step i a (by omega) hI with ⟨a', h1, h2⟩ | h
      · obtain ⟨r, h3, h4⟩ := ih (i + 1) a' (by omega) h2
        refine ⟨r, ?_, h4⟩
        rw [XL_eq, h1]; exact h3
      · exact out h
  intro i a hi hI
  exact key (n - i) i a (by omega) hI
theorem XL_fold {hd : List Vw} {x : EC} {α β : Type} (l : List α) (f : β → α → β) (S : Nat → β → St) {r : AX × St}
    (step : ∀ i a (e : α), l[i]? = some e → i < l.length → XG T b hd x (S i a) = some (.normal, S (i + 1) (f a e))) (a : β)
    (last : XL T b hd x (S l.length (l.foldl f a)) = some r) : XL T b hd x (S 0 a) = some r := by
  have key : ∀ k i a, i + k = l.length → XL T b hd x (S l.length ((l.drop i).foldl f a)) = some r → XL T b hd x (S i a) = some r := by
    intro k
    induction k with
    | zero =>
      intro i a hi h
      have : i = l.length := by omega
      subst this
      rw [List.drop_length] at h; exact h
    | succ k ih =>
      intro i a hi h
      have hlt : i < l.length := by omega
      rw [XL_eq, step i a l[i] (by simp [hlt]) hlt]
      refine ih (i + 1) (f a l[i]) (by omega) ?_
      rw [List.drop_eq_getElem_cons hlt] at h; exact h
  exact key l.length 0 a (by omega) (by simpa using last)
end
section
variable {α : Type}
def fill (f : α → AV) (z : AV) (l : List α) (i : Nat) : List AV := (l.take i).map f ++ List.replicate (l.length - i) z
variable {f : α → AV} {z : AV} {l : List α} {i : Nat}
theorem fill_0 : fill f z l 0 = List.replicate l.length z := by simp [fill]
theorem fill_all : fill f z l l.length = l.map f := by simp [fill]
theorem fill_len (h : i ≤ l.length) : (fill f z l i).length = l.length := by simp [fill]; omega
theorem fill_get (h : i < l.length) : (fill f z l i).getD i .undef = z := by
  rw [List.getD_eq_getElem?_getD]
  unfold fill
  rw [List.getElem?_append_right (by simp; omega)]
  simp only [List.length_map, List.length_take, Nat.min_eq_left (Nat.le_of_lt h), Nat.sub_self]
  rw [List.getElem?_replicate, if_pos (by omega)]; rfl
theorem take_snoc {x : α} (h : l[i]? = some x) : l.take (i + 1) = l.take i ++ [x] := by
  obtain ⟨hi, rfl⟩ := List.getElem?_eq_some_iff.1 h
  rw [List.take_add_one, h]; rfl
theorem fill_set {x : α} (h : l[i]? = some x) : (fill f z l i).set i (f x) = fill f z l (i + 1) := by
  have hi := (List.getElem?_eq_some_iff.1 h).1
  unfold fill
  rw [List.set_append_right _ _ (by simp; omega)]
  have e : i - ((l.take i).map f).length = 0 := by simp; omega
  rw [e, show l.length - i = (l.length - (i + 1)) + 1 by omega, List.replicate_succ, List.set_cons_zero, take_snoc h, List.map_append, List.append_assoc]
  rfl
theorem fill_mi (g : Bool → Nat → Nat → Nat → AV) (h : ∀ x, coolX (f x) = true) (hz : coolX z = true) : mapIdL g (fill f z l i) = fill f z l i := by
  unfold fill
  rw [mi_app, mi_map g f _ h, mi_rep, ((cool_ids g (fun _ _ _ _ => []) z).2 hz).1]
theorem fill_is (u : Bool → Nat → Nat → Nat → List Nat) (h : ∀ x, coolX (f x) = true) (hz : coolX z = true) : idsL u (fill f z l i) = [] := by
  unfold fill
  rw [is_app, is_map u f _ h, is_rep u _ _ ((cool_ids (fun _ _ _ _ => .undef) u z).2 hz).2]; rfl
theorem get_at (h : i < l.length) : ∃ x, l[i]? = some x := ⟨l[i], by simp [h]⟩
theorem take_eq_snoc {m : List α} {x y : α} (h : l[i]? = some x) (k : m[i]? = some y) : l.take (i + 1) = m.take (i + 1) ↔ l.take i = m.take i ∧ x = y := by
  rw [take_snoc h, take_snoc k]
  have hl : (l.take i).length = (m.take i).length := by
    have h1 := (List.getElem?_eq_some_iff.1 h).1
    have h2 := (List.getElem?_eq_some_iff.1 k).1
    rw [List.length_take, List.length_take]; omega
  constructor
  · intro e
    have := List.append_inj e hl
    exact ⟨this.1, by simpa using this.2⟩
  · rintro ⟨e1, e2⟩; rw [e1, e2]
end
end Go.Abs
