/- A small separation logic over the machine's worlds: immutable cells, owned objects, the judgements and the rules of control. -/
import Derived.Below
import Derived.Tactics
import Derived.Laws.World
namespace Go.Proofs.YthdpebagkfloaaaDoor
open Go Go.RowKit
set_option linter.unusedVariables false
namespace SL

/-- Cells that stay as they are from now on. -/
abbrev IM := Nat → Nat → Option Value
/-- Objects that are owned: a row of cells, the right to write a row's last cells, another object. -/
inductive AObj where
  | cells (vs : List Value)
  | tail (off fin : Nat)
  | obj (o : Obj)
abbrev AH := Nat → Option AObj

def AH.set (ah : AH) (b : Nat) (x : AObj) : AH := fun k => if k = b then some x else ah k
def AH.del (ah : AH) (b : Nat) : AH := fun k => if k = b then none else ah k
@[simp] theorem AH.set_same (ah : AH) (b : Nat) (x : AObj) : (ah.set b x) b = some x := by simp [AH.set]
theorem AH.set_ne (ah : AH) {b k : Nat} (x : AObj) (h : k ≠ b) : (ah.set b x) k = ah k := by simp [AH.set, h]
@[simp] theorem AH.del_same (ah : AH) (b : Nat) : (ah.del b) b = none := by simp [AH.del]
theorem AH.del_ne (ah : AH) {b k : Nat} (h : k ≠ b) : (ah.del b) k = ah k := by simp [AH.del, h]
theorem AH.set_set (ah : AH) (b : Nat) (x y : AObj) : (ah.set b x).set b y = ah.set b y := by funext k; simp only [AH.set]; split <;> rfl
theorem AH.del_set (ah : AH) (b : Nat) (x : AObj) : (ah.set b x).del b = ah.del b := by funext k; simp only [AH.set, AH.del]; split <;> rfl
theorem AH.set_del (ah : AH) (b : Nat) (x : AObj) : (ah.del b).set b x = ah.set b x := by funext k; simp only [AH.set, AH.del]; split <;> rfl
theorem AH.del_none (ah : AH) {b : Nat} (h : ah b = none) : ah.del b = ah := by funext k; simp only [AH.del]; split <;> simp_all
theorem AH.set_comm (ah : AH) {b c : Nat} (x y : AObj) (h : b ≠ c) : (ah.set b x).set c y = (ah.set c y).set b x := by
  funext k; simp only [AH.set]; (repeat' split) <;> simp_all
theorem AH.set_eq (ah : AH) {b : Nat} {x : AObj} (h : ah b = some x) : ah.set b x = ah := by funext k; simp only [AH.set]; split <;> simp_all
theorem AH.del_set_ne (ah : AH) {b c : Nat} (x : AObj) (h : b ≠ c) : (ah.set b x).del c = (ah.del c).set b x := by
  funext k; simp only [AH.set, AH.del]; (repeat' split) <;> simp_all
theorem AH.del_comm (ah : AH) (b c : Nat) : (ah.del b).del c = (ah.del c).del b := by
  funext k; simp only [AH.del]; (repeat' split) <;> simp_all

def Obj.isCells : Obj → Bool | .cells .. => true | _ => false

def AObj.at (w : World) (b : Nat) : AObj → Prop
  | .cells vs => ∃ T, w.heap[b]? = some (.cells vs.toArray T)
  | .tail off fin => ∃ cs T, w.heap[b]? = some (.cells cs T) ∧ cs.size = fin ∧ off ≤ fin
  | .obj o => w.heap[b]? = some o ∧ Obj.isCells o = false
def AObj.free (c : Nat → Option Value) : AObj → Prop
  | .cells _ => ∀ o, c o = none
  | .tail off _ => ∀ o, off ≤ o → c o = none
  | .obj _ => True

structure Sim (w0 : World) (I : IM) (ah : AH) (w : World) : Prop where
  base : Below w0.heap.size w0 w
  imm : ∀ b o v, I b o = some v → w.cell? ⟨b, o, none⟩ = some v
  own : ∀ b x, ah b = some x → w0.heap.size ≤ b ∧ x.at w b
  sep : ∀ b x, ah b = some x → x.free (I b)

def IM.le (I J : IM) : Prop := ∀ b o v, I b o = some v → J b o = some v
theorem IM.le.refl (I : IM) : IM.le I I := fun _ _ _ h => h
theorem IM.le.trans {I J K : IM} (h : IM.le I J) (k : IM.le J K) : IM.le I K := fun b o v e => k b o v (h b o v e)
/-- Cells more. -/
def IM.add (I : IM) (b s : Nat) (vs : List Value) : IM := fun b' o => if b' = b ∧ s ≤ o ∧ o < s + vs.length then vs[o - s]? else I b' o
theorem IM.add_at (I : IM) (b s : Nat) (vs : List Value) (j : Nat) (h : j < vs.length) : (I.add b s vs) b (s + j) = vs[j]? := by
  unfold IM.add; rw [if_pos ⟨rfl, by omega, by omega⟩]; congr 1; omega
theorem IM.le_add (I : IM) (b s : Nat) (vs : List Value) (h : ∀ o, s ≤ o → I b o = none) : IM.le I (I.add b s vs) := by
  intro b' o v hv
  unfold IM.add
  split
  · rename_i hc
    obtain ⟨rfl, h1, _⟩ := hc
    rw [h o h1] at hv; cases hv
  · exact hv

theorem cell_lt {w : World} {b o : Nat} {v : Value} (h : w.cell? ⟨b, o, none⟩ = some v) : b < w.heap.size := World.block_lt_of_cell? w _ h
theorem cell_of {w : World} {b o : Nat} {cs : Array Value} {T : TypeId} {fr : Nat × Nat} (h : w.heap[b]? = some (.cells cs T fr)) : w.cell? ⟨b, o, none⟩ = cs[o]? := by
  simp [World.cell?, h]
theorem frozen_of {w : World} {b o : Nat} {cs : Array Value} {T : TypeId} (h : w.heap[b]? = some (.cells cs T)) : w.frozen? ⟨b, o, none⟩ = false := by
  simp [World.frozen?, h]

theorem AObj.at_lt {w : World} {b : Nat} {x : AObj} (h : x.at w b) : b < w.heap.size := by
  have key : ∀ o, w.heap[b]? = some o → b < w.heap.size := fun o e => (Array.getElem?_eq_some_iff.1 e).1
  cases x with
  | cells vs => obtain ⟨T, h⟩ := h; exact key _ h
  | tail off fin => obtain ⟨cs, T, h, _⟩ := h; exact key _ h
  | obj o => exact key _ h.1

theorem AObj.at_congr {w w' : World} {b : Nat} {x : AObj} (h : x.at w b) (e : w'.heap[b]? = w.heap[b]?) : x.at w' b := by
  cases x with
  | cells vs => obtain ⟨T, h⟩ := h; exact ⟨T, e.trans h⟩
  | tail off fin => obtain ⟨cs, T, h, k⟩ := h; exact ⟨cs, T, e.trans h, k⟩
  | obj o => exact ⟨e.trans h.1, h.2⟩

namespace Sim
variable {w0 w : World} {I : IM} {ah : AH}

theorem lt (h : Sim w0 I ah w) {b : Nat} {x : AObj} (hb : ah b = some x) : b < w.heap.size := AObj.at_lt (h.own b x hb).2
theorem fresh (h : Sim w0 I ah w) : ah w.heap.size = none := by
  cases e : ah w.heap.size with
  | none => rfl
  | some x => exact absurd (h.lt e) (by omega)
theorem freshI (h : Sim w0 I ah w) (o : Nat) : I w.heap.size o = none := by
  cases e : I w.heap.size o with
  | none => rfl
  | some v => exact absurd (cell_lt (h.imm _ _ _ e)) (by omega)
theorem freshI' (h : Sim w0 I ah w) {b : Nat} (hb : w.heap.size ≤ b) (o : Nat) : I b o = none := by
  cases e : I b o with
  | none => rfl
  | some v => exact absurd (cell_lt (h.imm _ _ _ e)) (by omega)

theorem drew (h : Sim w0 I ah w) : Sim w0 I ah w.drew :=
  ⟨h.base.drew, fun b o v e => h.imm b o v e, fun b x e => ⟨(h.own b x e).1, AObj.at_congr (h.own b x e).2 rfl⟩, h.sep⟩

theorem forget (h : Sim w0 I ah w) {ah' : AH} (hs : ∀ b x, ah' b = some x → ah b = some x) : Sim w0 I ah' w :=
  ⟨h.base, h.imm, fun b x e => h.own b x (hs b x e), fun b x e => h.sep b x (hs b x e)⟩
theorem del (h : Sim w0 I ah w) (b : Nat) : Sim w0 I (ah.del b) w :=
  h.forget fun k x e => by simp only [AH.del] at e; split at e <;> simp_all

theorem alloc (h : Sim w0 I ah w) (o : Obj) : Sim w0 I ah (w.alloc o) := by
  refine ⟨h.base.alloc h.base.size o, fun b p v e => ?_, fun b x e => ⟨(h.own b x e).1, AObj.at_congr (h.own b x e).2 ?_⟩, h.sep⟩
  · rw [World.cell?_alloc_lt _ _ _ (cell_lt (h.imm _ _ _ e))]; exact h.imm _ _ _ e
  · exact Below.heap_alloc _ _ _ (h.lt e)

theorem heap_new (w : World) (o : Obj) : (w.alloc o).heap[w.heap.size]? = some o := by
  show (w.heap.push o)[w.heap.size]? = _
  simp

/-- An object that is there, owned by nobody, of which no cell is known: it may be owned. -/
theorem gain (h : Sim w0 I ah w) {b : Nat} {x : AObj} (hb : w0.heap.size ≤ b) (hx : x.at w b) (hf : x.free (I b)) : Sim w0 I (ah.set b x) w := by
  refine ⟨h.base, h.imm, fun k y e => ?_, fun k y e => ?_⟩
  · simp only [AH.set] at e
    split at e
    · cases e; subst_vars; exact ⟨hb, hx⟩
    · exact h.own k y e
  · simp only [AH.set] at e
    split at e
    · cases e; subst_vars; exact hf
    · exact h.sep k y e

theorem alloc_cells (h : Sim w0 I ah w) (vs : Array Value) (T : TypeId) : Sim w0 I (ah.set w.heap.size (.cells vs.toList)) (w.alloc (.cells vs T)) :=
  (h.alloc _).gain h.base.size ⟨T, by rw [heap_new]⟩ (fun o => h.freshI o)

theorem alloc_obj (h : Sim w0 I ah w) (o : Obj) (ho : Obj.isCells o = false) : Sim w0 I (ah.set w.heap.size (.obj o)) (w.alloc o) :=
  (h.alloc _).gain h.base.size ⟨heap_new .., ho⟩ trivial

/-- Cells become immutable: those of a row from s on, as they are. -/
theorem grow (h : Sim w0 I ah w) {b s : Nat} {vs : List Value} (hc : ∀ j (hj : j < vs.length), w.cell? ⟨b, s + j, none⟩ = some vs[j])
    (hs : ∀ x, ah b = some x → x.free ((I.add b s vs) b)) : Sim w0 (I.add b s vs) ah w := by
  refine ⟨h.base, fun k o v e => ?_, h.own, fun k x e => ?_⟩
  · unfold IM.add at e
    split at e
    · rename_i hh
      obtain ⟨rfl, h1, h2⟩ := hh
      have := hc (o - s) (by omega)
      rw [show s + (o - s) = o by omega] at this
      rw [this, ← e, List.getElem?_eq_getElem]
    · exact h.imm k o v e
  · by_cases hk : k = b
    · subst hk; exact hs x e
    · have : (I.add b s vs) k = I k := by funext o; simp [IM.add, hk]
      rw [this]; exact h.sep k x e

theorem freeze (h : Sim w0 I ah w) {b : Nat} {vs : List Value} (hb : ah b = some (.cells vs)) : Sim w0 (I.add b 0 vs) (ah.del b) w := by
  obtain ⟨T, hh⟩ := (h.own b _ hb).2
  refine (h.del b).grow (fun j hj => ?_) (fun x e => by simp at e)
  rw [cell_of hh]; simp [hj]
theorem freeI (h : Sim w0 I ah w) {b : Nat} {vs : List Value} (hb : ah b = some (.cells vs)) (o : Nat) : I b o = none := h.sep b _ hb o

theorem setCell_heap (w : World) {b o : Nat} (v : Value) {cs : Array Value} {T : TypeId} {fr : Nat × Nat} (h : w.heap[b]? = some (.cells cs T fr)) :
    (w.setCell ⟨b, o, none⟩ v).heap[b]? = some (.cells (cs.setIfInBounds o v) T fr) := by
  simp [World.setCell, Array.getElem?_modify, h]

theorem store (h : Sim w0 I ah w) {b o : Nat} {vs : List Value} (hb : ah b = some (.cells vs)) (v : Value) :
    Sim w0 I (ah.set b (.cells (vs.set o v))) (w.setCell ⟨b, o, none⟩ v) := by
  obtain ⟨T, hh⟩ := (h.own b _ hb).2
  refine ⟨h.base.setCell (h.own b _ hb).1 v, fun k p u e => ?_, fun k x e => ?_, fun k x e => ?_⟩
  · rw [World.cell?_setCell_other]
    · exact h.imm k p u e
    · intro hk
      cases hk
      rw [h.freeI hb] at e; cases e
  · simp only [AH.set] at e
    split at e
    · cases e; rename_i hk; subst hk
      exact ⟨(h.own k _ hb).1, T, by rw [setCell_heap w v hh]; simp⟩
    · rename_i hk
      exact ⟨(h.own k x e).1, AObj.at_congr (h.own k x e).2 (Below.heap_setCell _ _ _ _ hk)⟩
  · simp only [AH.set] at e
    split at e
    · cases e; rename_i hk; subst hk; exact fun o => h.sep k _ hb o
    · exact h.sep k x e

theorem cellOwn (h : Sim w0 I ah w) {b o : Nat} {vs : List Value} (hb : ah b = some (.cells vs)) : w.cell? ⟨b, o, none⟩ = vs[o]? := by
  obtain ⟨T, hh⟩ := (h.own b _ hb).2
  rw [cell_of hh]; simp
theorem frozenOwn (h : Sim w0 I ah w) {b o : Nat} {vs : List Value} (hb : ah b = some (.cells vs)) : w.frozen? ⟨b, o, none⟩ = false := by
  obtain ⟨T, hh⟩ := (h.own b _ hb).2
  exact frozen_of hh
theorem objOwn (h : Sim w0 I ah w) {b : Nat} {o : Obj} (hb : ah b = some (.obj o)) : w.heap[b]? = some o ∧ Obj.isCells o = false := (h.own b _ hb).2
theorem setObj (h : Sim w0 I ah w) {b : Nat} {o : Obj} (hb : ah b = some (.obj o)) (o' : Obj) (ho : Obj.isCells o' = false) :
    Sim w0 I (ah.set b (.obj o')) { w with heap := w.heap.setIfInBounds b o' } := by
  have hob := h.objOwn hb
  have hlt := h.lt hb
  have hne : ∀ k, k ≠ b → ({ w with heap := w.heap.setIfInBounds b o' } : World).heap[k]? = w.heap[k]? := fun k hk => by
    show (w.heap.setIfInBounds b o')[k]? = _
    rw [Array.getElem?_setIfInBounds]; split
    · exact absurd ‹_› (Ne.symm hk)
    · rfl
  refine ⟨⟨h.base.os, h.base.tape, h.base.output, by simpa using h.base.size, fun k hk => ?_⟩, fun k p u e => ?_, fun k x e => ?_, fun k x e => ?_⟩
  · rw [hne k (by have := (h.own b _ hb).1; omega)]; exact h.base.block k hk
  · have hk : k ≠ b := by
      rintro rfl
      have := h.imm k p u e
      simp only [World.cell?, hob.1] at this
      cases o <;> simp_all [Obj.isCells]
    rw [World.cell?_of_block (w := w) (hne k hk)]; exact h.imm k p u e
  · simp only [AH.set] at e
    split at e
    · cases e; rename_i hk; subst hk
      refine ⟨(h.own k _ hb).1, ?_, ho⟩
      show (w.heap.setIfInBounds k o')[k]? = _
      rw [Array.getElem?_setIfInBounds]; simp [hlt]
    · rename_i hk
      exact ⟨(h.own k x e).1, AObj.at_congr (h.own k x e).2 (hne k hk)⟩
  · simp only [AH.set] at e
    split at e
    · cases e; trivial
    · exact h.sep k x e
end Sim

/-! ### The frame -/
abbrev Env := List (Nat × Value)
def look : Env → Nat → Option Value
  | [], _ => none
  | (k, v) :: r, t => match Nat.beq k t with
    | true => some v
    | false => look r t
theorem look_cons_same (env : Env) (t : Nat) (v : Value) : look ((t, v) :: env) t = some v := by
  show (match Nat.beq t t with | true => some v | false => look env t) = _
  rw [show Nat.beq t t = true from Nat.beq_refl t]
theorem look_cons_ne (env : Env) {t k : Nat} (v : Value) (h : k ≠ t) : look ((k, v) :: env) t = look env t := by
  show (match Nat.beq k t with | true => some v | false => look env t) = _
  cases e : Nat.beq k t with
  | true => exact absurd (Nat.eq_of_beq_eq_true e) h
  | false => rfl
theorem look_cons {env : Env} {t k : Nat} {v u : Value} (h : look ((k, v) :: env) t = some u) : (k = t ∧ v = u) ∨ (k ≠ t ∧ look env t = some u) := by
  by_cases e : k = t
  · subst e; rw [look_cons_same] at h; cases h; exact .inl ⟨rfl, rfl⟩
  · rw [look_cons_ne _ _ e] at h; exact .inr ⟨e, h⟩

structure EnvOK (n : Nat) (env : Env) (a : Act) : Prop where
  defers : a.defers = []
  size : a.tmps.size = n
  get : ∀ t v, look env t = some v → a.tmps[t]? = some v
theorem EnvOK.put {n : Nat} {env : Env} {a : Act} (h : EnvOK n env a) {d : Nat} (hd : Nat.blt d n = true) (v : Value) : EnvOK n ((d, v) :: env) (a.put (some d) v) := by
  have hd' : d < n := by simpa [Nat.blt_eq] using hd
  refine ⟨h.defers, by simp [Act.put, h.size], fun t u e => ?_⟩
  rcases look_cons e with ⟨rfl, rfl⟩ | ⟨hne, e⟩
  · simp [Act.put, h.size, hd']
  · simp only [Act.put]; rw [Array.getElem?_setIfInBounds]; rw [if_neg hne]; exact h.get t u e

/-- What is known of a frame, less. -/
inductive EnvSub (env : Env) : Env → Prop where
  | nil : EnvSub env []
  | cons {t : Nat} {v : Value} {r : Env} (h : look env t = some v) (s : EnvSub env r) : EnvSub env ((t, v) :: r)
theorem EnvSub.look {env r : Env} (h : EnvSub env r) : ∀ t v, look r t = some v → SL.look env t = some v := by
  induction h with
  | nil => intro t v e; cases e
  | cons h s ih =>
    intro t v e
    rcases look_cons e with ⟨rfl, rfl⟩ | ⟨_, e⟩
    · exact h
    · exact ih t v e
theorem EnvOK.sub {n : Nat} {env r : Env} {a : Act} (h : EnvOK n env a) (s : EnvSub env r) : EnvOK n r a := ⟨h.defers, h.size, fun t v e => h.get t v (s.look t v e)⟩

def opv (env : Env) : Operand → Option Value
  | .tmp t => look env t
  | .const v => some v
  | .global g => some (.pointer (some ⟨g, 0, none⟩))
  | .func f => some (.func (.func f) #[] #[])
theorem EnvOK.eval {n : Nat} {env : Env} {a : Act} (h : EnvOK n env a) {x : Operand} {v : Value} (e : opv env x = some v) : a.eval x = v := by
  cases x with
  | tmp t => have := h.get t v e; simp [Act.eval, Array.getD_eq_getD_getElem?, this]
  | const u => cases e; rfl
  | global g => cases e; rfl
  | func f => cases e; rfl
def opvs (env : Env) : List Operand → Option (List Value)
  | [] => some []
  | x :: r => match opv env x, opvs env r with
    | some v, some vs => some (v :: vs)
    | _, _ => none
theorem EnvOK.evals {n : Nat} {env : Env} {a : Act} (h : EnvOK n env a) : ∀ {xs : List Operand} {vs : List Value}, opvs env xs = some vs → xs.map a.eval = vs
  | [], vs, e => by cases e; rfl
  | x :: r, vs, e => by
    unfold opvs at e
    split at e
    · rename_i v us hv hu
      cases e
      simp [h.eval hv, h.evals hu]
    · cases e

/-! ### The judgements -/
structure Cx where
  P : Program
  w0 : World
  n : Nat
abbrev Post := Exit → Act → World → Prop
def WL (C : Cx) (ops : Array Oper) (l : List Oper) (env : Env) (I : IM) (ah : AH) (Q : Post) : Prop :=
  ∀ a w, EnvOK C.n env a → Sim C.w0 I ah w → wpList C.P ops Q l a w
def CW (C : Cx) (c : Code) (env : Env) (I : IM) (ah : AH) (Q : Post) : Prop :=
  ∀ a w, EnvOK C.n env a → Sim C.w0 I ah w → c.wp C.P Q a w
def QA (C : Cx) (Q : Post) (e : Exit) (env : Env) (I : IM) (ah : AH) : Prop :=
  ∀ a w, EnvOK C.n env a → Sim C.w0 I ah w → Q e a w
/-- An ending: a value, in a world that holds what was told immutable and what is owned then. -/
def RQ (w0 : World) (I0 : IM) (post : Value → IM → AH → Prop) : Ending → World → Prop :=
  fun e w' => ∃ v I' ah', e = .returned v ∧ IM.le I0 I' ∧ Sim w0 I' ah' w' ∧ post v I' ah'
def SC (P : Program) (w0 : World) (f : FuncId) (args : List Value) (I : IM) (ah : AH) (post : Value → IM → AH → Prop) : Prop :=
  ∀ w, Sim w0 I ah w → Calls P f args.toArray w (RQ w0 I post)

section rules
variable {C : Cx} {env : Env} {I : IM} {ah : AH} {Q : Post}

theorem CW_seq {x y : Code} (h : CW C x env I ah (Exit.then (fun a w => y.wp C.P Q a w) Q)) : CW C (.seq x y) env I ah Q :=
  fun a w he hs => wp_seq (h a w he hs)
/-- The ways through x come together ahead of y. -/
theorem CW_join {x y : Code} (J : Env → IM → AH → Prop) (h : CW C x env I ah (Exit.then (fun a w => ∃ e' I' a', J e' I' a' ∧ EnvOK C.n e' a ∧ Sim C.w0 I' a' w) Q))
    (k : ∀ e' I' a', J e' I' a' → CW C y e' I' a' Q) : CW C (.seq x y) env I ah Q := by
  refine CW_seq fun a w he hs => wp_mono (h a w he hs) ?_
  intro e a w q
  cases e with
  | normal => obtain ⟨e', I', a', j, ho, hs⟩ := q; exact k e' I' a' j a w ho hs
  | _ => exact q
theorem CW_region {id : Nat} {l : List Oper} (h : WL C l.toArray l env I ah Q) : CW C (.region id l.toArray false) env I ah Q :=
  fun a w he hs => wp_region_lit (h a w he hs)
theorem CW_skip (h : QA C Q .normal env I ah) : CW C .skip env I ah Q := fun a w he hs => wp_skip (h a w he hs)
theorem CW_ret (h : QA C Q .ret env I ah) : CW C .ret env I ah Q := fun a w he hs => wp_ret (h a w he hs)
theorem CW_exit {id : Nat} (h : QA C Q (.exit id) env I ah) : CW C (.exit id) env I ah Q := fun a w he hs => wp_exit (h a w he hs)
theorem CW_block {id : Nat} {c : Code} (h : CW C c env I ah (Exit.inBlock id Q)) : CW C (.block id c) env I ah Q := fun a w he hs => wp_block (h a w he hs)
theorem CW_cond {c : Operand} {x y : Code} {t : Bool} (hc : opv env c = some (.bool t)) (ht : t = true → CW C x env I ah Q) (hf : t = false → CW C y env I ah Q) :
    CW C (.cond c x y) env I ah Q := fun a w he hs => wp_cond_split (he.eval hc) (fun h => ht h a w he hs) (fun h => hf h a w he hs)
theorem CW_true {c : Operand} {x y : Code} (hc : opv env c = some (.bool true)) (ht : CW C x env I ah Q) : CW C (.cond c x y) env I ah Q :=
  CW_cond hc (fun _ => ht) (fun h => by cases h)
theorem CW_false {c : Operand} {x y : Code} (hc : opv env c = some (.bool false)) (hf : CW C y env I ah Q) : CW C (.cond c x y) env I ah Q :=
  CW_cond hc (fun h => by cases h) (fun _ => hf)
theorem CW_sub {c : Code} {r : Env} (s : EnvSub env r) (h : CW C c r I ah Q) : CW C c env I ah Q := fun a w he hs => h a w (he.sub s) hs
theorem CW_forget {c : Code} {ah' : AH} (s : ∀ b x, ah' b = some x → ah b = some x) (h : CW C c env I ah' Q) : CW C c env I ah Q := fun a w he hs => h a w he (hs.forget s)
theorem CW_loop {c : Code} (Inv : Nat → Env → IM → AH → Prop) (m : Nat) {e0 : Env} (h0 : Inv m e0 I ah) (s0 : EnvSub env e0)
    (round : ∀ m e' I' a', Inv m e' I' a' → CW C c e' I' a' (Exit.then (fun a w => ∃ m' e2 I2 a2, m' < m ∧ Inv m' e2 I2 a2 ∧ EnvOK C.n e2 a ∧ Sim C.w0 I2 a2 w) Q)) :
    CW C (.loop c) env I ah Q := by
  intro a w he hs
  have key : ∀ m, ∀ b k cs a w, (∃ e' I' a', Inv m e' I' a' ∧ EnvOK C.n e' a ∧ Sim C.w0 I' a' w) →
      ∃ e a' w', Q e a' w' ∧ Arrives C.P (lone (b.at a (.code c :: .inLoop c :: k)) cs w) b k cs e a' w' := by
    intro m
    induction m using Nat.strongRecOn with
    | _ m ih =>
      intro b k cs a w hI
      obtain ⟨e', I', a', hi, he, hs⟩ := hI
      obtain ⟨e, a₁, w₁, hq, harr⟩ := round m e' I' a' hi a w he hs b (.inLoop c :: k) cs
      cases e with
      | normal =>
        obtain ⟨m', e2, I2, a2, hlt, hi2, he2, hs2⟩ := hq
        obtain ⟨e₂, a₂, w₂, hq₂, harr₂⟩ := ih m' hlt b k cs a₁ w₁ ⟨e2, I2, a2, hi2, he2, hs2⟩
        exact ⟨e₂, a₂, w₂, hq₂, .of_steps (Steps.trans harr (.one step_inLoop)) harr₂⟩
      | exit id => exact ⟨_, a₁, w₁, hq, .pass (x := .inLoop c) rfl (fun _ _ => .inl (by simp)) harr⟩
      | goto l => exact ⟨_, a₁, w₁, hq, .pass (x := .inLoop c) rfl (fun _ _ => .inl (by simp)) harr⟩
      | ret => exact ⟨_, a₁, w₁, hq, .pass (x := .inLoop c) rfl (fun _ _ => .inl (by simp)) harr⟩
      | panic ch => exact ⟨_, a₁, w₁, hq, .pass (x := .inLoop c) rfl (fun _ _ => .inl (by simp)) harr⟩
      | outgrown => exact ⟨_, a₁, w₁, hq, .pass (x := .inLoop c) rfl (fun _ _ => .inl (by simp)) harr⟩
  intro b k cs
  obtain ⟨e, a', w', hq, harr⟩ := key m b k cs a w ⟨e0, I, ah, h0, he.sub s0, hs⟩
  exact ⟨e, a', w', hq, .of_steps (.one step_loop) harr⟩

theorem WL_nil {ops : Array Oper} (h : QA C Q .normal env I ah) : WL C ops [] env I ah Q := fun a w he hs => wpList_nil (h a w he hs)
theorem QA_seq {y : Code} (h : CW C y env I ah Q) : QA C (Exit.then (fun a w => y.wp C.P Q a w) Q) .normal env I ah := h
theorem QA_round {Inv : Nat → Env → IM → AH → Prop} {m : Nat} (m' : Nat) (e2 : Env) (hlt : m' < m) (hi : Inv m' e2 I ah) (s : EnvSub env e2) :
    QA C (Exit.then (fun a w => ∃ m' e2 I2 a2, m' < m ∧ Inv m' e2 I2 a2 ∧ EnvOK C.n e2 a ∧ Sim C.w0 I2 a2 w) Q) .normal env I ah :=
  fun a w he hs => ⟨m', e2, I, ah, hlt, hi, he.sub s, hs⟩
theorem QA_join {J : Env → IM → AH → Prop} (e2 : Env) (hi : J e2 I ah) (s : EnvSub env e2) :
    QA C (Exit.then (fun a w => ∃ e' I' a', J e' I' a' ∧ EnvOK C.n e' a ∧ Sim C.w0 I' a' w) Q) .normal env I ah :=
  fun a w he hs => ⟨e2, I, ah, hi, he.sub s, hs⟩
theorem QA_then_ret {K : Act → World → Prop} (h : QA C Q .ret env I ah) : QA C (Exit.then K Q) .ret env I ah := h
theorem QA_then_exit {K : Act → World → Prop} {id : Nat} (h : QA C Q (.exit id) env I ah) : QA C (Exit.then K Q) (.exit id) env I ah := h
theorem QA_block_normal {id : Nat} (h : QA C Q .normal env I ah) : QA C (Exit.inBlock id Q) .normal env I ah := h
theorem QA_block_ret {id : Nat} (h : QA C Q .ret env I ah) : QA C (Exit.inBlock id Q) .ret env I ah := h
theorem QA_block_here {id : Nat} (h : QA C Q .normal env I ah) : QA C (Exit.inBlock id Q) (.exit id) env I ah :=
  fun a w he hs => by show (if id = id then _ else _); rw [if_pos rfl]; exact h a w he hs
theorem QA_block_out {id j : Nat} (hj : Nat.beq j id = false) (h : QA C Q (.exit j) env I ah) : QA C (Exit.inBlock id Q) (.exit j) env I ah :=
  fun a w he hs => by
    have : j ≠ id := by intro e; subst e; simp at hj
    show (if j = id then _ else _); rw [if_neg this]; exact h a w he hs

/-! ### A function's begin and end -/
def initEnv : Nat → List Value → Env
  | _, [] => []
  | k, v :: r => (k, v) :: initEnv (k + 1) r
theorem look_initEnv : ∀ (vs : List Value) (k t : Nat) (v : Value), look (initEnv k vs) t = some v → k ≤ t ∧ vs[t - k]? = some v
  | [], _, _, _, h => by cases h
  | u :: r, k, t, v, h => by
    rcases look_cons h with ⟨rfl, rfl⟩ | ⟨hne, h⟩
    · simp
    · have := look_initEnv r (k + 1) t v h
      refine ⟨by omega, ?_⟩
      rw [show t - k = (t - (k + 1)) + 1 by omega]; simpa using this.2
theorem SC_enter {P : Program} {w0 : World} {f : FuncId} {fn : Func} {c : Code} {n : Nat} {args : List Value} {post : Value → IM → AH → Prop}
    (hf : P.funcs[f]? = some fn) (hb : fn.body = some c) (hn : fn.ntmps = n) (hl : args.length ≤ n) (h : CW ⟨P, w0, n⟩ c (initEnv 0 args) I ah (bodyPost P fn (RQ w0 I post))) :
    SC P w0 f args I ah post := by
  intro w hs
  refine calls_of_wp hf hb (h _ w ⟨rfl, ?_, fun t v e => ?_⟩ hs)
  · simp [hn]; omega
  · obtain ⟨_, e⟩ := look_initEnv args 0 t v e
    simp only [Nat.sub_zero] at e
    have : t < args.length := (List.getElem?_eq_some_iff.1 e).1
    rw [Array.getElem?_append_left (by simpa using this)]; simpa using e

def resv (env : Env) : List ResultVar → Option (List Value)
  | [] => some []
  | .tmp t :: r => match look env t, resv env r with
    | some v, some vs => some (v :: vs)
    | _, _ => none
  | .cell .. :: _ => none
def packRes : List Value → Value
  | [v] => v
  | vs => .tuple vs.toArray
theorem results_run {n : Nat} {a : Act} (he : EnvOK n env a) {fn : Func} {rs : List ResultVar} (hr : fn.results = rs.toArray) {vs : List Value} (hv : resv env rs = some vs) (P : Program) (w : World) :
    (results fn a.tmps).run P w = .ok (packRes vs) w := by
  have key : ∀ (rs : List ResultVar) (vs : List Value), resv env rs = some vs → ∀ w, (rs.mapM (fun
      | ResultVar.tmp t => (pure (a.tmps.getD t undef) : Sem Value)
      | .cell b t => do loadVar t (← asAddr (a.tmps.getD b undef)))).run P w = .ok vs w := by
    intro rs
    induction rs with
    | nil => intro vs h w; cases h; simp
    | cons r rs ih =>
      intro vs h w
      cases r with
      | cell b t => cases h
      | tmp t =>
        unfold resv at h
        split at h
        · rename_i v us hv hu
          cases h
          have := he.get t v hv
          have e : a.tmps.getD t undef = v := by simp [Array.getD_eq_getD_getElem?, this]
          rw [List.mapM_cons]
          simp only [Sem.run_bind, e, Sem.run_pure, Result.andThen_ok, ih us hu]
        · cases h
  unfold results
  rw [hr]
  simp only [List.mapM_toArray, Sem.run_bind, Sem.run_map]
  refine (congrArg (fun r : Result (List Value) => (r.andThen fun a w' => Result.ok a.toArray w').andThen fun a w' => Sem.run P (pure (if h : a.size = 1 then a[0] else Value.tuple a)) w') (key rs vs hv w)).trans ?_
  clear key hv
  match vs with
  | [] => rfl
  | [v] => rfl
  | v :: u :: r => rfl

theorem QA_return {fn : Func} {w0 : World} {n : Nat} {P : Program} {I0 : IM} {post : Value → IM → AH → Prop} {rs : List ResultVar} (hr : fn.results = rs.toArray) {vs : List Value} (hv : resv env rs = some vs)
    (hI : IM.le I0 I) (ah' : AH) (hah : ∀ b x, ah' b = some x → ah b = some x) (hp : post (packRes vs) I ah') : QA ⟨P, w0, n⟩ (bodyPost P fn (RQ w0 I0 post)) .ret env I ah :=
  fun a w he hs => ⟨he.defers, _, results_run he hr hv P w, _, I, ah', rfl, hI, hs.forget hah, hp⟩
theorem QA_end {fn : Func} {w0 : World} {n : Nat} {P : Program} {I0 : IM} {post : Value → IM → AH → Prop} {rs : List ResultVar} (hr : fn.results = rs.toArray) {vs : List Value} (hv : resv env rs = some vs)
    (hI : IM.le I0 I) (ah' : AH) (hah : ∀ b x, ah' b = some x → ah b = some x) (hp : post (packRes vs) I ah') : QA ⟨P, w0, n⟩ (bodyPost P fn (RQ w0 I0 post)) .normal env I ah :=
  fun a w he hs => ⟨he.defers, _, results_run he hr hv P w, _, I, ah', rfl, hI, hs.forget hah, hp⟩
end rules

theorem SC.mono {P : Program} {w0 : World} {f : FuncId} {args : List Value} {I : IM} {ah : AH} {p q : Value → IM → AH → Prop} (h : SC P w0 f args I ah p) (hq : ∀ v I' ah', IM.le I I' → p v I' ah' → q v I' ah') : SC P w0 f args I ah q :=
  fun w hs => (h w hs).mono fun e w' ⟨v, I', ah', he, hI, hs', hp⟩ => ⟨v, I', ah', he, hI, hs', hq v I' ah' hI hp⟩
theorem SC.forget {P : Program} {w0 : World} {f : FuncId} {args : List Value} {I : IM} {ah ah1 : AH} {p : Value → IM → AH → Prop} (h : SC P w0 f args I ah1 p) (s : ∀ b x, ah1 b = some x → ah b = some x) : SC P w0 f args I ah p :=
  fun w hs => h w (hs.forget s)
end SL
end Go.Proofs.YthdpebagkfloaaaDoor
