/-
  Code: a stack of what is still to come ('AW'), its rules; a function's contract from its body.
-/
import Derived.Test.YtfnfbdccmggfoaaGreatDoorPg11
set_option linter.unusedSimpArgs false
set_option linter.unusedVariables false
namespace Go.Proofs.YtfnfbdccmggfoaaGreatDoor.Pg
open Go.RowKit

inductive It : Type where
  | code (c : Code)
  | blk (id : Nat)

def Run (P : Program) (Q : Exit → Act → World → Prop) : List It → Exit → Act → World → Prop
  | [], e, a, w => Q e a w
  | .code c :: k, .normal, a, w => c.wp P (Run P Q k) a w
  | .blk _ :: k, .normal, a, w => Run P Q k .normal a w
  | .blk id :: k, .exit id', a, w => if id' = id then Run P Q k .normal a w else Run P Q k (.exit id') a w
  | _ :: k, e, a, w => Run P Q k e a w

def QS (X : Ctx) (Q : Exit → St → Prop) : Exit → Act → World → Prop := fun e a w => ∃ st, Q e st ∧ Sat X st a w

/-- FROM THIS STATE, WITH THIS STILL TO COME. -/
def AW (P : Program) (k : List It) (st : St) (Q : Exit → St → Prop) : Prop := ∀ X a w, Sat X st a w → Run P (QS X Q) k .normal a w

/-- .. on the way out. -/
def AWE (P : Program) (k : List It) (e : Exit) (st : St) (Q : Exit → St → Prop) : Prop := ∀ X a w, Sat X st a w → Run P (QS X Q) k e a w

section
variable {P : Program} {k : List It} {st : St} {Q : Exit → St → Prop}

theorem aw_nil (h : Q .normal st) : AW P [] st Q := fun _ _ _ hs => ⟨st, h, hs⟩

theorem aw_blk {id : Nat} (h : AW P k st Q) : AW P (.blk id :: k) st Q := fun X a w hs => h X a w hs

theorem run_then (P : Program) (Q : Exit → Act → World → Prop) (c : Code) (k : List It) : Run P Q (.code c :: k) = Exit.then (c.wp P (Run P Q k)) (Run P Q k) := by
  funext e a w
  cases e <;> rfl

theorem run_inBlock (P : Program) (Q : Exit → Act → World → Prop) (id : Nat) (k : List It) : Run P Q (.blk id :: k) = Exit.inBlock id (Run P Q k) := by
  funext e a w
  cases e <;> rfl

theorem aw_skip (h : AW P k st Q) : AW P (.code .skip :: k) st Q := fun X a w hs => wp_skip (h X a w hs)

theorem aw_seq {x y : Code} (h : AW P (.code x :: .code y :: k) st Q) : AW P (.code (.seq x y) :: k) st Q := fun X a w hs => by
  have := h X a w hs
  show (Code.seq x y).wp P (Run P (QS X Q) k) a w
  refine wp_seq ?_
  rw [← run_then]
  exact this

theorem aw_block {id : Nat} {c : Code} (h : AW P (.code c :: .blk id :: k) st Q) : AW P (.code (.block id c) :: k) st Q := fun X a w hs => by
  have := h X a w hs
  show (Code.block id c).wp P (Run P (QS X Q) k) a w
  refine wp_block ?_
  rw [← run_inBlock]
  exact this

/-- What is left behind a block. -/
def popTo (id : Nat) : List It → Option (List It)
  | [] => none
  | .blk id' :: k => if id = id' then some k else popTo id k
  | .code _ :: k => popTo id k

theorem run_exit (Q : Exit → Act → World → Prop) {id : Nat} {k' : List It} {a : Act} {w : World} : ∀ (k : List It), popTo id k = some k' → Run P Q k' .normal a w → Run P Q k (.exit id) a w
  | [], h, _ => by cases h
  | .blk id' :: k, h, hr => by
    unfold popTo at h
    show (if id = id' then Run P Q k .normal a w else Run P Q k (.exit id) a w)
    split at h
    · rename_i e
      simp only [Option.some.injEq] at h
      subst h
      rw [if_pos e]; exact hr
    · rename_i e
      rw [if_neg e]; exact run_exit Q k h hr
  | .code _ :: k, h, hr => by
    unfold popTo at h
    exact run_exit Q k h hr

theorem aw_exit {id : Nat} {k' : List It} (hp : popTo id k = some k') (h : AW P k' st Q) : AW P (.code (.exit id) :: k) st Q := fun X a w hs => by
  show (Code.exit id).wp P (Run P (QS X Q) k) a w
  exact wp_exit (run_exit _ k hp (h X a w hs))

theorem run_exit_none (Q : Exit → Act → World → Prop) {id : Nat} {a : Act} {w : World} (hq : Q (.exit id) a w) : ∀ (k : List It), popTo id k = none → Run P Q k (.exit id) a w
  | [], _ => hq
  | .blk id' :: k, h => by
    unfold popTo at h
    show (if id = id' then Run P Q k .normal a w else Run P Q k (.exit id) a w)
    split at h
    · cases h
    · rename_i e
      rw [if_neg e]; exact run_exit_none Q hq k h
  | .code _ :: k, h => by
    unfold popTo at h
    exact run_exit_none Q hq k h

/-- .. out of the piece that stands alone. -/
theorem aw_exit_out {id : Nat} (hp : popTo id k = none) (h : Q (.exit id) st) : AW P (.code (.exit id) :: k) st Q := fun X a w hs => by
  show (Code.exit id).wp P (Run P (QS X Q) k) a w
  exact wp_exit (run_exit_none _ ⟨st, h, hs⟩ k hp)

theorem run_ret (Q : Exit → Act → World → Prop) {a : Act} {w : World} (h : Q .ret a w) : ∀ (k : List It), Run P Q k .ret a w
  | [] => h
  | .blk _ :: k => run_ret Q h k
  | .code _ :: k => run_ret Q h k

theorem aw_ret (h : Q .ret st) : AW P (.code .ret :: k) st Q := fun X a w hs => by
  show Code.ret.wp P (Run P (QS X Q) k) a w
  exact wp_ret (run_ret _ ⟨st, h, hs⟩ k)

theorem aw_cond {c : Operand} {x y : Code} {t : Bool} (hc : ev st c = .raw (.bool t)) (h1 : t = true → AW P (.code x :: k) st Q) (h2 : t = false → AW P (.code y :: k) st Q) : AW P (.code (.cond c x y) :: k) st Q := fun X a w hs => by
  obtain ⟨M, β, hs'⟩ := hs
  have hv := ev_sound hs' c
  rw [hc] at hv
  have hv' : a.eval c = .bool t := hv
  exact wp_cond_split hv' (fun e => h1 e X a w ⟨M, β, hs'⟩) (fun e => h2 e X a w ⟨M, β, hs'⟩)

def KA (P : Program) (k : List It) (Q : Exit → St → Prop) : St → Prop := fun st => AW P k st Q

theorem aw_region {id : Nat} {ops : Array Oper} (h : vcOps false P ops ops.toList st (KA P k Q)) : AW P (.code (.region id ops false) :: k) st Q := fun X a w hs =>
  wp_region_list (vcOps_sound (fun _ a' w' hk hs' => hk X a' w' hs') ops.toList st a w h hs)

theorem lis_replicate (n i : Nat) : lis (Array.replicate n false) i = false := by
  unfold lis
  rw [Array.getD_eq_getD_getElem?, Array.getElem?_replicate]
  split <;> rfl

theorem cnt_none : ∀ n (p : Nat → Bool), (∀ i, p i = false) → cnt n p = 0
  | 0, _, _ => rfl
  | n + 1, p, h => by rw [cnt, cnt_none n p h, h n]; rfl

/-- A region that draws: the number of its quiet operations. -/
theorem aw_draw {id : Nat} {ops : Array Oper} (m : Nat) (hm : P.follows .mixedOrders = true) (hd : drawOK ops m = true) (h : vcOps true P ops ops.toList st (KA P k Q)) : AW P (.code (.region id ops true) :: k) st Q := fun X a w hs => by
  obtain ⟨M, β, hs'⟩ := hs
  obtain ⟨vs, h1, h2⟩ := head_run (m := m) (fun j o hj ho => ((drawOK_at hd ho).2.1 hj).1.resolve_left (by have := (Array.getElem?_eq_some_iff.1 ho).1; omega)) (drawOK_le hd) h m (Nat.le_refl _)
  refine wp_region_any hm (any_order (β := β) hd h1 (fun a' w' hs'' => vcOps_sound (fun _ a'' w'' hk hs3 => hk X a'' w'' hs3) _ _ a' w' h2 hs'') ops.size M _ a _ ?_ (by simp) ?_ (fun i _ _ => lis_replicate _ _) ?_)
  · rw [cnt_none _ _ (fun i => lis_replicate _ _)]; rfl
  · intro j oj _ hl; rw [lis_replicate] at hl; cases hl
  · refine ⟨hs'.nodef, hs'.size, fun t j _ hl => ?_, fun t _ => hs'.tmps t, hs'.mem.drew⟩
    rw [lis_replicate] at hl; cases hl

/-- A loop whose measure stands in no slot. -/
theorem wp_loop_rel {c : Code} {Q : Exit → Act → World → Prop} (I : Nat → Act → World → Prop) {n : Nat} {a : Act} {w : World} (h₀ : I n a w)
    (round : ∀ n a w, I n a w → c.wp P (Exit.then (fun a' w' => ∃ n', n' < n ∧ I n' a' w') Q) a w) : (Code.loop c).wp P Q a w := by
  intro b k cs
  have key : ∀ n a w, I n a w → ∃ e a' w', Q e a' w' ∧ Arrives P (lone (b.at a (.code c :: .inLoop c :: k)) cs w) b k cs e a' w' := by
    intro n
    induction n using Nat.strongRecOn with
    | _ n ih =>
      intro a w hI
      obtain ⟨e, a₁, w₁, hq, harr⟩ := round n a w hI b (.inLoop c :: k) cs
      cases e with
      | normal =>
        obtain ⟨n', hlt, hI₁⟩ := hq
        obtain ⟨e₂, a₂, w₂, hq₂, harr₂⟩ := ih n' hlt a₁ w₁ hI₁
        exact ⟨e₂, a₂, w₂, hq₂, .of_steps (Steps.trans harr (.one step_inLoop)) harr₂⟩
      | exit id => exact ⟨_, a₁, w₁, hq, .pass (x := .inLoop c) rfl (fun _ _ => .inl (by simp)) harr⟩
      | goto l => exact ⟨_, a₁, w₁, hq, .pass (x := .inLoop c) rfl (fun _ _ => .inl (by simp)) harr⟩
      | ret => exact ⟨_, a₁, w₁, hq, .pass (x := .inLoop c) rfl (fun _ _ => .inl (by simp)) harr⟩
      | panic ch => exact ⟨_, a₁, w₁, hq, .pass (x := .inLoop c) rfl (fun _ _ => .inl (by simp)) harr⟩
      | outgrown => exact ⟨_, a₁, w₁, hq, .pass (x := .inLoop c) rfl (fun _ _ => .inl (by simp)) harr⟩
  obtain ⟨e, a', w', hq, harr⟩ := key n a w h₀
  exact ⟨e, a', w', hq, .of_steps (.one step_loop) harr⟩

/-- WHAT A STATE TELS OF ANOTHER: whatever is so is so. -/
def Le (st st' : St) : Prop := ∀ X a w, Sat X st a w → Sat X st' a w

/-- What follows a piece of code that stands alone. -/
def Out (P : Program) (k : List It) (Q : Exit → St → Prop) (Mid : St → Prop) : Exit → St → Prop := fun e st =>
  match e with
  | .normal => Mid st
  | .exit id => AWE P k (.exit id) st Q
  | .ret => AWE P k .ret st Q
  | _ => False

/-- A LOOP: S x are the states at its head, I what holds there, μ falls. -/
theorem aw_loop {α : Type} {c : Code} (S : α → St) (I : α → Prop) (μ : α → Nat) (x : α) (hx : I x) (h0 : Le st (S x))
    (round : ∀ x, I x → AW P [.code c] (S x) (Out P k Q fun st' => ∃ x', I x' ∧ μ x' < μ x ∧ Le st' (S x'))) : AW P (.code (.loop c) :: k) st Q := fun X a w hs => by
  show (Code.loop c).wp P (Run P (QS X Q) k) a w
  refine wp_loop_rel (fun n a w => ∃ x, I x ∧ Sat X (S x) a w ∧ μ x = n) ⟨x, hx, h0 X a w hs, rfl⟩ fun n a w ⟨x, h1, h2, h3⟩ => ?_
  have := round x h1 X a w h2
  refine wp_mono this fun e a' w' hq => ?_
  obtain ⟨st', hq, hs'⟩ := hq
  cases e with
  | normal =>
    obtain ⟨x', e1, e2, e3⟩ := hq
    exact ⟨μ x', by omega, x', e1, e3 X a' w' hs', rfl⟩
  | exit id => exact hq X a' w' hs'
  | ret => exact hq X a' w' hs'
  | goto l => exact hq.elim
  | panic c => exact hq.elim
  | outgrown => exact hq.elim

theorem awe_exit {id : Nat} {k' : List It} (hp : popTo id k = some k') (h : AW P k' st Q) : AWE P k (.exit id) st Q := fun X a w hs => run_exit _ k hp (h X a w hs)
theorem awe_ret (h : Q .ret st) : AWE P k .ret st Q := fun _ _ _ hs => run_ret _ ⟨st, h, hs⟩ k

/-- A CUT. -/
theorem aw_cut {c : Code} (Mid : St → Prop) (h1 : AW P [.code c] st (Out P k Q Mid)) (h2 : ∀ st', Mid st' → AW P k st' Q) : AW P (.code c :: k) st Q := fun X a w hs => by
  refine wp_mono (h1 X a w hs) fun e a' w' hq => ?_
  obtain ⟨st', hq, hs'⟩ := hq
  cases e with
  | normal => exact h2 st' hq X a' w' hs'
  | exit id => exact hq X a' w' hs'
  | ret => exact hq X a' w' hs'
  | goto l => exact hq.elim
  | panic c => exact hq.elim
  | outgrown => exact hq.elim

theorem aw_le {st' : St} (h : Le st st') (hk : AW P k st' Q) : AW P k st Q := fun X a w hs => hk X a w (h X a w hs)

theorem awe_exit_out {id : Nat} (hp : popTo id k = none) (h : Q (.exit id) st) : AWE P k (.exit id) st Q := fun _ _ _ hs => run_exit_none _ ⟨st, h, hs⟩ k hp

end
end Go.Proofs.YtfnfbdccmggfoaaGreatDoor.Pg
