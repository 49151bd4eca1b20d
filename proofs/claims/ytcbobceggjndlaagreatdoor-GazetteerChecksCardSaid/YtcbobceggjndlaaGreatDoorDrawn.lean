/-
  What a run asks of the tape it does not give back: 'drawn' only grows, whatever the machine does. So a contract that ends in 'Below w.heap.size w w'' says the world up to the count of draws and the new blocks.
-/
import Derived.Test.YtcbobceggjndlaaGreatDoorBase
import Derived.RunT
import Derived.Lone
import Derived.Lib.QuietBelow
set_option linter.unusedVariables false
set_option linter.unusedSimpArgs false
namespace Go.Proofs.YtcbobceggjndlaaGreatDoor
open Go Go.RowKit

theorem ask_drawn {α : Type} : ∀ (a : Ask α) (w : World), w.drawn ≤ (w.ask a).2.drawn
  | .done a, w => Nat.le_refl _
  | .ask what range k, w => by
    unfold World.ask
    simp only []
    split
    · exact ask_drawn _ _
    · exact Nat.le_trans (Nat.le_succ _) (ask_drawn (k _) { w with drawn := w.drawn + 1 })
theorem sys_drawn (w : World) (c : Sys) : w.drawn ≤ (w.sys c).2.drawn := by
  have h := ask_drawn (Kernel.perform c w.os) w
  unfold World.sys
  split
  · exact Nat.le_refl _
  · rename_i heq; rw [heq] at h; exact h
theorem viewStore_drawn {p : Program} {w w' : World} {at_ : Addr} {u : TypeId} {k : Addr} {v : Value} {b : Bool} {l : List Addr} (h : w.viewStore p at_ u k v b = .ok (w', l)) : w'.drawn = w.drawn := by
  unfold World.viewStore at h
  simp only [bind, Except.bind, pure, Except.pure, throw, throwThe, MonadExceptOf.throw] at h
  repeat' first
    | (cases h; done)
    | (injection h with h; injection h with h1 h2; rw [← h1]; done)
    | split at h
theorem farStore_drawn {p : Program} {w w' : World} {a : Addr} {v : Value} {b : Bool} {l : List Addr} (h : w.farStore p a v b = .ok (w', l)) : w'.drawn = w.drawn := by
  unfold World.farStore at h
  repeat' first
    | (cases h; done)
    | (rename_i heq; injection h with h; subst h; exact viewStore_drawn heq)
    | split at h
def Result.world {α : Type} : Result α → World
  | .ok _ w => w
  | .halt _ w => w
theorem run_drawn {α : Type} (p : Program) : ∀ (s : Sem α) (w : World), w.drawn ≤ (Result.world (s.run p w)).drawn := by
  intro s
  induction s with
  | pure a => intro w; exact Nat.le_refl _
  | load m a k ih =>
    intro w; unfold Sem.run
    split
    · exact ih _ _
    · split
      · exact ih _ _
      · exact Nat.le_refl _
  | store m a v k ih =>
    intro w
    cases v <;> simp only [Sem.run]
    all_goals first
      | exact Nat.le_refl _
      | (split
         · split
           · exact Nat.le_refl _
           · exact ih (w.setCell a _)
         · split
           · rename_i heq; exact Nat.le_trans (Nat.le_of_eq (farStore_drawn heq).symm) (ih _)
           · exact Nat.le_refl _)
  | new o k ih => intro w; unfold Sem.run; exact ih _ { w with heap := w.heap.push o }
  | shape r k ih => intro w; unfold Sem.run; exact ih _ _
  | freeze a n k ih =>
    intro w; unfold Sem.run
    have e : (w.freeze a n).drawn = w.drawn := by unfold World.freeze; split <;> rfl
    have := ih (w.freeze a n); omega
  | frozen a k ih => intro w; unfold Sem.run; exact ih _ _
  | getObj r k ih =>
    intro w; unfold Sem.run
    split
    · exact Nat.le_refl _
    · exact ih _ _
    · exact Nat.le_refl _
  | setObj r o k ih =>
    intro w; unfold Sem.run
    split
    · exact Nat.le_refl _
    · exact ih { w with heap := w.heap.setIfInBounds r o }
    · exact Nat.le_refl _
  | choose q k ih =>
    intro w; unfold Sem.run
    split
    · exact ih _ _
    · exact Nat.le_trans (Nat.le_succ _) (ih _ { w with drawn := w.drawn + 1 })
  | sys c k ih => intro w; unfold Sem.run; exact Nat.le_trans (sys_drawn w c) (ih _ _)
  | program k ih => intro w; unfold Sem.run; exact ih _ _
  | mark m k ih => intro w; unfold Sem.run; exact ih _
  | halt h => intro w; exact Nat.le_refl _
theorem run_ok {α : Type} {p : Program} {s : Sem α} {w w' : World} {a : α} (h : s.run p w = .ok a w') : w.drawn ≤ w'.drawn := by
  have := run_drawn p s w; rw [h] at this; exact this
theorem run_halt {α : Type} {p : Program} {s : Sem α} {w w' : World} {a : Halt} (h : s.run p w = .halt a w') : w.drawn ≤ w'.drawn := by
  have := run_drawn p s w; rw [h] at this; exact this

/-- A step's world has drawn at least as much. -/
def Up (d : Nat) : GStep → Prop
  | .go _ w _ => d ≤ w.drawn
  | .comm _ _ _ _ w _ => d ≤ w.drawn
  | .spawn _ _ w _ => d ≤ w.drawn
  | .count _ w _ => d ≤ w.drawn
  | .timer _ _ w _ => d ≤ w.drawn
  | .alone _ _ w _ => d ≤ w.drawn
  | .newcoro _ _ _ w _ => d ≤ w.drawn
  | .coroswitch _ _ _ w _ => d ≤ w.drawn
  | .collect _ w _ => d ≤ w.drawn
  | .watch _ w _ => d ≤ w.drawn
  | .ended _ _ _ => True
theorem Up.after {d : Nat} {s : GStep} (es : Array Event) (h : Up d s) : Up d (GStep.after es s) := by cases s <;> exact h
theorem Up.le {d d' : Nat} {s : GStep} (h : Up d s) (hd : d' ≤ d) : Up d' s := by cases s <;> first | exact Nat.le_trans hd h | trivial
theorem ite_up {d : Nat} {c : Prop} [Decidable c] {a b : GStep} (h1 : Up d a) (h2 : Up d b) : Up d (if c then a else b) := by split <;> assumption
theorem elim_up {α : Type} {d : Nat} {o : Option α} {a : GStep} {f : α → GStep} (h1 : Up d a) (h2 : ∀ k, Up d (f k)) : Up d (o.elim a f) := by cases o <;> first | exact h1 | exact h2 _
theorem doReturn_up (p : Program) (main : Bool) (fr : Frame) (callers : List Frame) (dying : Option Dying) (v : Value) (w : World) : Up w.drawn (doReturn p main fr callers dying v w) := by
  unfold doReturn
  repeat' first
    | exact Nat.le_refl _
    | trivial
    | split
theorem endThrow_up (fr : Frame) (m : String) (w : World) : Up w.drawn (endThrow fr m w) := Nat.le_refl _
theorem endPrinting_up (p : Program) (fr : Frame) (v : Value) (w : World) : Up w.drawn (endPrinting p fr v w) := by
  unfold endPrinting
  simp only []
  repeat' first
    | exact Nat.le_refl _
    | trivial
    | split
theorem endFatal_up (p : Program) (fr : Frame) (callers : List Frame) (dying : Option Dying) (m : String) (w : World) : Up w.drawn (endFatal p fr callers dying m w) := by
  unfold endFatal
  simp only []
  split
  · rename_i heq; exact run_ok heq
  · trivial
  · trivial
theorem early_up (p : Program) (fr : Frame) (callers : List Frame) (dying : Option Dying) (g : Nat) (w : World) : Up w.drawn (early p fr callers dying g w) := by
  unfold early
  simp only []
  repeat' first
    | exact Nat.le_refl _
    | trivial
    | (simp only [Up]; exact run_ok (by assumption))
    | (simp only [Up]; exact run_halt (by assumption))
    | split
theorem endWith_up (d : Nat) (w : World) (fd : Nat) (text : ByteArray) (o : Outcome) (h : d ≤ w.drawn) : Up d (endWith w fd text o) := by
  have h1 := sys_drawn w (.write fd text)
  unfold endWith
  simp only []
  split
  · rename_i heq; rw [heq] at h1; split <;> first | trivial | exact Nat.le_trans h h1
  · first | trivial | (rename_i heq; rw [heq] at h1; exact Nat.le_trans h h1)
  · first | trivial | (rename_i heq; rw [heq] at h1; exact Nat.le_trans h h1)

theorem writeOn_up (p : Program) (fr : Frame) (d : Dying) (f : Fatal) (w : World) : Up w.drawn (writeOn p fr d f w) := by
  unfold writeOn
  simp only []
  split
  · first | trivial | exact Nat.le_refl _
  · split
    all_goals
      first
        | trivial
        | (rename_i heq
           have h := congrArg Prod.fst heq
           rw [Sem.runT_fst] at h
           first
             | exact run_ok h
             | exact run_halt h)
theorem die_up (p : Program) (fr : Frame) (d : Dying) (w : World) : Up w.drawn (die p fr d w) := by
  unfold die
  split
  · exact writeOn_up _ _ _ _ _
  · split
    · split
      · first | trivial | exact Nat.le_refl _
      · exact endWith_up _ _ _ _ _ (Nat.le_refl _)
    · simp only []
      split
      · first | trivial | exact Nat.le_refl _
      · split
        · rename_i heq; exact run_ok heq
        · first | trivial | (rename_i heq; exact run_halt heq)
      · refine Up.after _ ?_
        split
        all_goals
          first
            | trivial
            | exact Nat.le_refl _
            | (rename_i heq; rw [Sem.runT_fst] at heq; exact run_ok heq)
            | (rename_i heq; rw [Sem.runT_fst] at heq; exact run_halt heq)
            | (rename_i heq; rw [Sem.runT_fst] at heq; exact Up.le (endPrinting_up _ _ _ _) (run_halt heq))
      · first | trivial | exact Nat.le_refl _
theorem callDeferred_up (p : Program) (fr : Frame) (callers : List Frame) (dying : Option Dying) (d : Deferred) (w : World) : Up w.drawn (callDeferred p fr callers dying d w) := by
  unfold callDeferred
  have h0 := run_drawn p (invoke d.target d.args) w
  rw [← Sem.runT_fst p _ w #[]] at h0
  refine ite_up ?_ ?_
  · trivial
  · revert h0
    generalize (invoke d.target d.args).runT p w #[] = q
    obtain ⟨r, es⟩ := q
    intro h0
    simp only [] at h0 ⊢
    refine Up.after _ ?_
    split
    all_goals first
      | trivial
      | exact h0
      | exact Up.le (endFatal_up _ _ _ _ _ _) h0
      | (split <;> first | trivial | exact h0)

theorem unwind_up (p : Program) (main : Bool) (fr : Frame) (callers : List Frame) (dying : Option Dying) (w : World) : Up w.drawn (unwind p main fr callers dying w) := by
  unfold unwind
  split
  · refine Up.after _ ?_
    split
    · rename_i heq; rw [Sem.runT_fst] at heq; exact run_ok heq
    · trivial
  · exact callDeferred_up _ _ _ _ _ _
  · split
    · trivial
    · repeat' first
        | trivial
        | exact Nat.le_refl _
        | (simp only [Up]; exact run_ok (by assumption))
        | (simp only [Up]; exact run_halt (by assumption))
        | exact endPrinting_up _ _ _ _
        | split
    · split
      · exact doReturn_up _ _ _ _ _ _ _
      · refine Up.after _ ?_
        split
        · rename_i heq; rw [Sem.runT_fst] at heq; exact Up.le (doReturn_up _ _ _ _ _ _ _) (run_ok heq)
        · trivial
        · trivial
theorem apply_up (p : Program) (listen : Bool) (fr : Frame) (callers : List Frame) (dying : Option Dying) (s : Sem Next) (w : World) : Up w.drawn (stepG.apply p listen fr callers dying s w) := by
  unfold stepG.apply
  have h0 : w.drawn ≤ (Result.world (if listen = true then s.runT p w #[] else (s.run p w, #[])).1).drawn := by
    split
    · rw [Sem.runT_fst]; exact run_drawn p s w
    · exact run_drawn p s w
  revert h0
  generalize (if listen = true then s.runT p w #[] else (s.run p w, #[])) = q
  obtain ⟨r, es⟩ := q
  intro h0
  simp only [] at h0 ⊢
  refine Up.after _ ?_
  split
  all_goals first
    | trivial
    | exact h0
    | exact Up.le (endFatal_up _ _ _ _ _ _) h0
    | exact Up.le (early_up _ _ _ _ _ _) h0
    | exact ite_up h0 h0
    | (refine ite_up ?_ ?_ <;> exact h0)
    | (split <;> first | trivial | exact h0)
theorem oper_up (p : Program) (listen : Bool) (fr : Frame) (callers : List Frame) (dying : Option Dying) (w : World) : Up w.drawn (stepG.oper p listen fr callers dying w) := by
  unfold stepG.oper
  repeat' first
    | trivial
    | exact apply_up _ _ _ _ _ _ _
    | split
theorem exec_up (p : Program) (main listen : Bool) (fr : Frame) (callers : List Frame) (dying : Option Dying) (w : World) : Up w.drawn (stepG.exec p main listen fr callers dying w) := by
  unfold stepG.exec
  have hleave : ∀ (jump : Option Code) (c : Prop) [Decidable c], Up w.drawn (match fr.roundOf with
      | none => if c then GStep.go { frame := { fr with mode := .returning }, callers, status := .running, dying } w else .ended (.stuck "exit, goto: no such block or label" (fr.pos p)) w
      | some l =>
        GStep.after (seen p fr.fn ((Instr.endRound l jump).runT p w #[]).2) <| match ((Instr.endRound l jump).runT p w #[]).1 with
        | .ok v w => doReturn p main fr callers dying v w
        | .halt _ w => .ended (.stuck "range over a function: no such loop" (fr.pos p)) w) := by
    intro jump c _
    split
    · refine ite_up ?_ ?_
      · exact Nat.le_refl _
      · trivial
    · refine Up.after _ ?_
      split
      · rename_i heq; rw [Sem.runT_fst] at heq; exact Up.le (doReturn_up _ _ _ _ _ _ _) (run_ok heq)
      · trivial
  simp only []
  split
  all_goals first
    | trivial
    | exact Nat.le_refl _
    | exact hleave _ _
    | exact apply_up _ _ _ _ _ _ _
    | (split <;> first | trivial | exact Nat.le_refl _; done)
    | (refine elim_up ?_ ?_
       · exact hleave _ _
       · intro k; exact Nat.le_refl _)
    | (refine elim_up ?_ ?_
       · trivial
       · intro k; exact apply_up _ _ _ _ _ _ _)
    | (refine Up.after _ ?_
       split
       all_goals
         rename_i heq
         rw [Sem.runT_fst] at heq
         first
           | trivial
           | exact run_ok heq
           | exact run_halt heq
           | exact Up.le (apply_up _ _ _ _ _ _ _) (run_ok heq)
       done)
    | (refine ite_up ?_ ?_
       · exact Nat.le_refl _
       · split
         · rename_i heq; exact run_ok heq
         · trivial)
    | (refine ite_up ?_ ?_
       · exact oper_up _ _ _ _ _ _
       · exact Nat.le_refl _)
theorem stepG_up (p : Program) (main : Bool) (g : Goroutine) (w : World) (listen : Bool) : Up w.drawn (stepG p main g w listen) := by
  unfold stepG
  simp only []
  split
  · exact die_up _ _ _ _
  · exact exec_up _ _ _ _ _ _ _
  · exact unwind_up _ _ _ _ _ _
/-- A machine's step: the world has drawn at least as much. -/
def MUp (d : Nat) : Stepped → Prop
  | .next m => d ≤ m.world.drawn
  | _ => True
theorem look_up (p : Program) (gs : Array Goroutine) (rest : Rest) (w : World) : MUp w.drawn (look p gs rest w) := by
  unfold look
  simp only []
  split
  · split
    · trivial
    · split
      · trivial
      · split
        · rename_i heq; have h := run_ok heq; exact h
        · trivial
        · trivial
  · trivial
theorem communicate_up (p : Program) (rest : Rest) (gs : Array Goroutine) (i : Nat) (g : Goroutine) (cases : Array CommCase) (blocking : Bool) (shape : CommShape) (w : World) : MUp w.drawn (communicate p rest gs i g cases blocking shape w).1 := by
  unfold communicate
  simp only []
  split
  · trivial
  · split
    · split
      · split
        · rename_i heq
          unfold waitingAt at heq
          split at heq
          · split at heq
            · injection heq with heq; subst heq; exact Nat.le_refl _
            · cases heq
          · injection heq with heq; subst heq; exact Nat.le_refl _
        · trivial
      · exact Nat.le_refl _
    · split
      · trivial
      · rename_i heq
        have h := run_ok heq
        clear heq
        split
        · split
          · rename_i heq; exact Nat.le_trans h (run_halt heq)
          · trivial
        · exact h
        · exact h
        · split
          · exact h
          · split
            · rename_i heq; have h2 := run_ok heq; exact Nat.le_trans h h2
            · trivial
        all_goals first
          | trivial
          | exact h
theorem timerOp_up {m m' : Machine} {op : TimerOp} {v : Value} (h : timerOp m op = .ok (v, m')) : m'.world.drawn = m.world.drawn := by
  have hre : ∀ (m : Machine) k t a b, (retime m k t a b).2.world.drawn = m.world.drawn := by
    intro m k t a b
    unfold retime drain
    simp only []
    repeat' first
      | rfl
      | split
  have hn : ∀ (m0 : Machine) var (f : Nat → Timer → Value × Machine) (v : Value) (m' : Machine), (∀ k t, (f k t).2.world.drawn = m0.world.drawn) → timerOp.named m var f = .ok (v, m') → m'.world.drawn = m0.world.drawn := by
    intro m0 var f v m' hf he
    unfold timerOp.named at he
    split at he
    · injection he with he
      have h2 : _ = m'.world.drawn := congrArg (fun x : Value × Machine => x.2.world.drawn) he
      rw [← h2]
      exact hf _ _
    · cases he
  cases op with
  | new t =>
    simp only [timerOp] at h
    repeat' first
      | (cases h; done)
      | (injection h with h; injection h with h1 h2; subst h2; rfl)
      | split at h
  | stop var => simp only [timerOp] at h; exact hn m _ _ _ _ (fun k t => hre m k t _ _) h
  | reset var when period =>
    simp only [timerOp] at h
    split at h
    · rename_i m1 heq
      have e : m1.world.drawn = m.world.drawn := by
        unfold timerOp.opened at heq
        repeat' first
          | (cases heq; done)
          | (injection heq with heq; subst heq; rfl)
          | split at heq
      rw [← e]
      exact hn m1 _ _ _ _ (fun k t => hre m1 k t _ _) h
    · cases h
  | deadline ctx read write when =>
    simp only [timerOp] at h
    injection h with h; injection h with h1 h2; subst h2; rfl

theorem machine_runT_up (p : Program) (m : Machine) (i : Nat) (listen : Bool) : MUp m.world.drawn (runT p m i listen).1 := by
  unfold runT
  simp only []
  have h := stepG_up p (i == 0) (m.gs.swapAt! i { (default : Goroutine) with status := .finished }).1 m.world listen
  revert h
  generalize stepG p (i == 0) (m.gs.swapAt! i { (default : Goroutine) with status := .finished }).1 m.world listen = s
  intro h
  cases s with
  | ended o w es => trivial
  | comm g cases blocking shape w es =>
    have h1 := communicate_up p m.rest (m.gs.swapAt! i { (default : Goroutine) with status := .finished }).2 i g cases blocking shape w
    simp only []
    revert h1
    generalize (communicate p m.rest (m.gs.swapAt! i { (default : Goroutine) with status := .finished }).2 i g cases blocking shape w).1 = q
    intro h1
    cases q with
    | next m1 => exact Nat.le_trans h h1
    | _ => trivial
  | collect g w es =>
    have h1 := look_up p ((m.gs.swapAt! i { (default : Goroutine) with status := .finished }).2.setIfInBounds i g) m.rest w
    simp only []
    revert h1
    generalize look p ((m.gs.swapAt! i { (default : Goroutine) with status := .finished }).2.setIfInBounds i g) m.rest w = q
    intro h1
    cases q with
    | next m1 => exact Nat.le_trans h h1
    | _ => trivial
  | count g w es =>
    simp only []
    split
    · trivial
    · exact h
  | coroswitch g c exit w es =>
    simp only []
    split
    · exact h
    · split
      · rename_i heq
        have h2 := endThrow_up g.frame "coroswitch on exited coro" w
        rw [heq] at h2
        exact Nat.le_trans h h2
      · trivial
    · trivial
  | timer g op w es =>
    simp only []
    split
    · rename_i heq
      have h2 := timerOp_up heq
      exact Nat.le_trans h (Nat.le_of_eq h2.symm)
    · split
      · rename_i heq
        have h2 : Up w.drawn (GStep.go _ _ _) := heq ▸ endThrow_up g.frame _ w
        exact Nat.le_trans h h2
      · trivial
    · trivial
    · trivial
  | _ => exact h
/-- A move: the machine that goes on has drawn at least as much. -/
def VUp (d : Nat) : Move → Prop
  | .goroutine m _ => d ≤ m.world.drawn
  | .machine s _ => MUp d s
theorem VUp.le {d d' : Nat} {s : Move} (h : VUp d s) (hd : d' ≤ d) : VUp d' s := by
  cases s with
  | goroutine m i => exact Nat.le_trans hd h
  | machine s ops => cases s with
    | next m => exact Nat.le_trans hd h
    | _ => trivial
theorem serve_up (p : Program) (m : Machine) (k : Nat) : MUp m.world.drawn (serve p m k) := by
  unfold serve
  simp only []
  repeat' first
    | trivial
    | exact Nat.le_refl _
    | split
theorem ite_vup {d : Nat} {c : Prop} [Decidable c] {a b : Move} (h1 : VUp d a) (h2 : VUp d b) : VUp d (if c then a else b) := by split <;> assumption
theorem askOn_up (p : Program) (m : Machine) : VUp m.world.drawn (askOn p m) := by
  unfold askOn
  simp only []
  have hpick : ∀ m1 : Machine, VUp m1.world.drawn (match (choose (.sched (runnable m.gs m.world.os.mono).length)).run p m1.world with
      | .halt _ w => Move.machine (.ended (.stuck "sched" "") w)
      | .ok k world =>
        if (runnable m.gs m.world.os.mono).length ≤ 1 then .goroutine { m1 with world } ((runnable m.gs m.world.os.mono).getD k 0) else
        match (choose (.extern "sched.slice" 65536)).run p world with
        | .halt _ w => .machine (.ended (.stuck "sched.slice" "") w)
        | .ok n world => .goroutine { m1 with world, rest := { m1.rest with slice := if n = 0 then none else some ((runnable m.gs m.world.os.mono).getD k 0, n) } } ((runnable m.gs m.world.os.mono).getD k 0)) := by
    intro m1
    split
    · trivial
    · rename_i heq
      have h1 := run_ok heq
      refine ite_vup h1 ?_
      split
      · trivial
      · rename_i heq2
        have h2 := run_ok heq2
        exact Nat.le_trans h1 h2
  split
  · trivial
  · rename_i heq
    have h1 := run_ok heq
    clear heq
    refine ite_vup ?_ ?_
    · exact VUp.le (s := .machine _ _) (serve_up p _ _) h1
    · refine VUp.le ?_ h1
      split
      · split
        · exact Nat.le_refl _
        · refine ite_vup ?_ ?_
          · exact Nat.le_refl _
          · split <;> trivial
      · split
        · exact hpick { m with world := _ }
        · split
          · trivial
          · rename_i heq; exact VUp.le (hpick { m with world := _ }) (run_ok heq)
          · rename_i heq; have h2 := run_ok heq; exact h2
          · rename_i heq; have h2 := run_ok heq; exact VUp.le (hpick (Machine.advanceTo { m with world := _ } _)) h2
theorem ask_up (p : Program) (m : Machine) : VUp m.world.drawn (ask p m) := by
  unfold ask
  split
  · split
    · trivial
    · rename_i world heq
      have h1 := run_ok heq
      have h2 := look_up p m.gs m.rest world
      split
      · rename_i heq2
        rw [heq2] at h2
        exact VUp.le (askOn_up p _) (Nat.le_trans h1 h2)
      · rename_i heq2
        exact VUp.le (s := .machine _ _) h2 h1
    · rename_i heq
      exact VUp.le (askOn_up p { m with world := _ }) (run_ok heq)
  · exact askOn_up p m
theorem move_up (p : Program) (m : Machine) : VUp m.world.drawn (move p m) := by
  unfold move
  split
  · refine ite_vup ?_ ?_
    · exact Nat.le_refl _
    · trivial
  · split
    · refine ite_vup ?_ ?_
      · exact Nat.le_refl _
      · exact ask_up p { m with rest := _ }
    · exact ask_up p m
theorem step_up (p : Program) (m : Machine) : MUp m.world.drawn (step p m) := by
  have h := move_up p m
  unfold step stepT
  split
  · rename_i m1 i heq
    rw [heq] at h
    have h2 := machine_runT_up p m1 i true
    revert h2
    generalize (runT p m1 i true).1 = q
    intro h2
    cases q with
    | next m2 => exact Nat.le_trans h h2
    | _ => trivial
  · rename_i heq
    rw [heq] at h
    exact h
theorem runN_up (p : Program) : ∀ (n : Nat) (m m' : Machine), runN p n m = .next m' → m.world.drawn ≤ m'.world.drawn
  | 0, m, m', h => by simp [runN] at h; rw [h]; exact Nat.le_refl _
  | n + 1, m, m', h => by
    have h1 := step_up p m
    simp only [runN] at h
    split at h
    · rename_i heq
      rw [heq] at h1
      exact Nat.le_trans h1 (runN_up p n _ _ h)
    · rename_i hne
      exact absurd h (hne _)
theorem steps_up {p : Program} {m m' : Machine} (h : Steps p m m') : m.world.drawn ≤ m'.world.drawn := by
  obtain ⟨n, hn⟩ := h
  exact runN_up p n m m' hn
/-- A contract may say besides that what has been drawn has not been given back. -/
theorem calls_up {P : Program} {f : FuncId} {args : Array Value} {w : World} {R : Ending → World → Prop} (h : Calls P f args w R) (hR : ∀ w', ¬ R .outgrown w') : Calls P f args w fun e w' => R e w' ∧ w.drawn ≤ w'.drawn := by
  intro cs
  obtain ⟨e, w', fr, hr, hc, hf, hl⟩ := h cs
  refine ⟨e, w', fr, ⟨hr, ?_⟩, hc, hf, hl⟩
  cases e with
  | outgrown => exact absurd hr (hR w')
  | returned v => exact steps_up (m := lone _ _ _) (m' := lone _ _ _) hc
  | panicked c => exact steps_up (m := lone _ _ _) (m' := lone _ _ _) hc
theorem grow_of_below {w w' : World} (h : Below w.heap.size w w') (hd : w.drawn ≤ w'.drawn) : ∃ q os, w' = Sort.grow (w.drewN q) os := by
  obtain ⟨p, hp⟩ := regrown_of_below h
  refine ⟨p.d - w.drawn, p.os, ?_⟩
  have e : w'.drawn = p.d := by rw [hp]; rfl
  have e2 : redrawn w p.d = w.drewN (p.d - w.drawn) := by
    have : w.drawn + (p.d - w.drawn) = p.d := by omega
    unfold redrawn World.drewN; rw [this]
  rw [← e2]
  exact hp
/-- A contract that ends in 'Below w.heap.size w w'' in the words of the shelf's sorts. -/
theorem calls_grow {P : Program} {f : FuncId} {args : Array Value} {w : World} {v : Value} (h : Calls P f args w fun e w' => e = .returned v ∧ Below w.heap.size w w') :
    Calls P f args w fun e w' => e = .returned v ∧ ∃ q os, w' = Sort.grow (w.drewN q) os :=
  (calls_up h (fun _ h => by cases h.1)).mono fun _ _ ⟨⟨he, hb⟩, hd⟩ => ⟨he, grow_of_below hb hd⟩
end Go.Proofs.YtcbobceggjndlaaGreatDoor
