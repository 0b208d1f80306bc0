/- The rules for single operations: scalars, loads and stores, new memory, slices. -/
import Derived.Test.YthdpebagkfloaaaDoorSlA
import Derived.Laws.AppendOwn
import Derived.Laws.CopyRow
import Derived.Lib.Strings
import Derived.OrdersHeld
namespace Go.Proofs.YthdpebagkfloaaaDoor
open Go Go.RowKit
set_option linter.unusedVariables false
namespace SL

section
variable {C : Cx} {ops : Array Oper} {rest : List Oper} {env : Env} {I : IM} {ah : AH} {Q : Post}

/-- Operation o comes to v and turns nothing. -/
def PE (C : Cx) (env : Env) (I : IM) (ah : AH) (o : Oper) (v : Value) : Prop :=
  ∀ a w, EnvOK C.n env a → Sim C.w0 I ah w → (execOp a.eval o).run C.P w = .ok (.value v) w
/-- Operation o leads to one of the states R. -/
def OE (C : Cx) (env : Env) (I : IM) (ah : AH) (o : Oper) (R : Env → IM → AH → Prop) : Prop :=
  ∀ a w, EnvOK C.n env a → Sim C.w0 I ah w → ∀ K Q, (∀ e' I' ah' a' w', R e' I' ah' → EnvOK C.n e' a' → Sim C.w0 I' ah' w' → K a' w') → o.wp C.P a w K Q

variable {d ty : Nat} {ps : String} {af : Array Edge} {op : Op}

theorem WL_val {v : Value} (hd : Nat.blt d C.n = true) (h : PE C env I ah ⟨some d, op, ty, ps, af, none⟩ v) (k : WL C ops rest ((d, v) :: env) I ah Q) : WL C ops (⟨some d, op, ty, ps, af, none⟩ :: rest) env I ah Q := by
  intro a w he hs
  refine wpList_plain rfl fun K hK => ?_
  unfold Oper.wp
  rw [h a w he hs, Oper.upon_value]
  exact hK _ _ (k _ _ (he.put hd v) hs)
theorem WL_val0 {v : Value} (h : PE C env I ah ⟨none, op, ty, ps, af, none⟩ v) (k : WL C ops rest env I ah Q) : WL C ops (⟨none, op, ty, ps, af, none⟩ :: rest) env I ah Q := by
  intro a w he hs
  refine wpList_plain rfl fun K hK => ?_
  unfold Oper.wp
  rw [h a w he hs, Oper.upon_value]
  exact hK _ _ (k _ _ he hs)
theorem WL_op {o : Oper} {R : Env → IM → AH → Prop} (hg : o.guard = none) (h : OE C env I ah o R) (k : ∀ e' I' ah', R e' I' ah' → WL C ops rest e' I' ah' Q) : WL C ops (o :: rest) env I ah Q := by
  intro a w he hs
  refine wpList_plain hg fun K hK => ?_
  exact h a w he hs K Q fun e' I' ah' a' w' hR he' hs' => hK _ _ (k e' I' ah' hR a' w' he' hs')
/-- A guarded operation: its guard's answer is known. -/
theorem WL_guard {j : Nat} {want b : Bool} {dst : Option Tmp} {oj : Oper} {dj : Nat} (hj : ops[j]? = some oj) (hdj : oj.dst = some dj) (hb : look env dj = some (.bool b))
    (h1 : b = want → WL C ops (⟨dst, op, ty, ps, af, none⟩ :: rest) env I ah Q) (h0 : b ≠ want → ∀ d, dst = some d → WL C ops rest ((d, undef) :: env) I ah Q) (h0' : b ≠ want → dst = none → WL C ops rest env I ah Q) (hd : ∀ d, dst = some d → Nat.blt d C.n = true) :
    WL C ops (⟨dst, op, ty, ps, af, some (j, want)⟩ :: rest) env I ah Q := by
  intro a w he hs
  have hy : yielded ops a.tmps j = some b := by
    have := he.get dj _ hb
    simp [yielded, hj, hdj, this]
  unfold wpList
  by_cases e : b = want
  · have hw : Region.wanted ⟨dst, op, ty, ps, af, some (j, want)⟩ (yielded ops a.tmps) = true := by simp [Region.wanted, hy, e]
    rw [if_pos hw]
    have := h1 e a w he hs
    unfold wpList at this
    rw [if_pos (by simp [Region.wanted])] at this
    exact this
  · have hw : Region.wanted ⟨dst, op, ty, ps, af, some (j, want)⟩ (yielded ops a.tmps) = false := by simp [Region.wanted, hy, e]
    rw [if_neg (by rw [hw]; simp)]
    cases dst with
    | none => exact h0' e rfl a w he hs
    | some d => exact h0 e d rfl _ w (he.put (hd d rfl) undef) hs
theorem WL_gon {j : Nat} {want : Bool} {dst : Option Tmp} {oj : Oper} {dj : Nat} (hj : ops[j]? = some oj) (hdj : oj.dst = some dj) (hb : look env dj = some (.bool want))
    (h1 : WL C ops (⟨dst, op, ty, ps, af, none⟩ :: rest) env I ah Q) : WL C ops (⟨dst, op, ty, ps, af, some (j, want)⟩ :: rest) env I ah Q := by
  intro a w he hs
  have hy : yielded ops a.tmps j = some want := by
    have := he.get dj _ hb
    simp [yielded, hj, hdj, this]
  unfold wpList
  rw [if_pos (by simp [Region.wanted, hy])]
  have := h1 a w he hs
  unfold wpList at this
  rw [if_pos (by simp [Region.wanted])] at this
  exact this
theorem WL_gskip {j : Nat} {want b : Bool} {oj : Oper} {dj : Nat} (hj : ops[j]? = some oj) (hdj : oj.dst = some dj) (hb : look env dj = some (.bool b)) (hne : b ≠ want) (hd : Nat.blt d C.n = true)
    (h0 : WL C ops rest ((d, undef) :: env) I ah Q) : WL C ops (⟨some d, op, ty, ps, af, some (j, want)⟩ :: rest) env I ah Q := by
  intro a w he hs
  have hy : yielded ops a.tmps j = some b := by
    have := he.get dj _ hb
    simp [yielded, hj, hdj, this]
  unfold wpList
  rw [if_neg (by simp [Region.wanted, hy, hne])]
  exact h0 _ w (he.put hd undef) hs
/-- Of a result, whatever it is. -/
theorem OE_ex {d ty : Nat} {op : Op} {ps : String} {af : Array Edge} {g : Option (Nat × Bool)} {R : Env → IM → AH → Prop} (hd : Nat.blt d C.n = true)
    (h : ∀ a w, EnvOK C.n env a → Sim C.w0 I ah w → ∃ v w' I' ah', (execOp a.eval ⟨some d, op, ty, ps, af, g⟩).run C.P w = .ok (.value v) w' ∧ Sim C.w0 I' ah' w' ∧ R ((d, v) :: env) I' ah') :
    OE C env I ah ⟨some d, op, ty, ps, af, g⟩ R := by
  intro a w he hs K Q hK
  obtain ⟨v, w', I', ah', hr, hs', hR⟩ := h a w he hs
  unfold Oper.wp
  rw [hr, Oper.upon_value]
  exact hK _ I' ah' _ _ hR (he.put hd v) hs'
theorem OE_ex0 {ty : Nat} {op : Op} {ps : String} {af : Array Edge} {g : Option (Nat × Bool)} {R : Env → IM → AH → Prop}
    (h : ∀ a w, EnvOK C.n env a → Sim C.w0 I ah w → ∃ v w' I' ah', (execOp a.eval ⟨none, op, ty, ps, af, g⟩).run C.P w = .ok (.value v) w' ∧ Sim C.w0 I' ah' w' ∧ R env I' ah') :
    OE C env I ah ⟨none, op, ty, ps, af, g⟩ R := by
  intro a w he hs K Q hK
  obtain ⟨v, w', I', ah', hr, hs', hR⟩ := h a w he hs
  unfold Oper.wp
  rw [hr, Oper.upon_value]
  exact hK _ I' ah' _ _ hR he hs'
/-- A deed without a value. -/
theorem OE_deed {ty : Nat} {op : Op} {ps : String} {af : Array Edge} {g : Option (Nat × Bool)} {R : Env → IM → AH → Prop}
    (h : ∀ a w, EnvOK C.n env a → Sim C.w0 I ah w → ∃ w' I' ah', (execOp a.eval ⟨none, op, ty, ps, af, g⟩).run C.P w = .ok .skip w' ∧ Sim C.w0 I' ah' w' ∧ R env I' ah') :
    OE C env I ah ⟨none, op, ty, ps, af, g⟩ R := by
  intro a w he hs K Q hK
  obtain ⟨w', I', ah', hr, hs', hR⟩ := h a w he hs
  unfold Oper.wp
  rw [hr, Oper.upon_skip]
  exact hK _ I' ah' _ _ hR he hs'

/-! ### A region that draws its order -/
def noPanic (Q : Post) : Post := fun e a w => match e with | .panic _ => False | e => Q e a w
/-- Whatever order comes, S holds till number st has come. -/
def wpAnyT (P : Program) (ops : Array Oper) (Q : Post) (S : World → Prop) (st : Nat) : Nat → Array Bool → Act → World → Prop
  | 0, listed, a, w => Region.ready .any ops listed = [] ∧ Q .normal a w
  | fuel + 1, listed, a, w =>
    (Region.ready .any ops listed = [] → Q .normal a w) ∧
    ∀ i ∈ Region.ready .any ops listed, wpOp P ops Q i (fun a' w' => ((listed.setIfInBounds i true).getD st false = false → S w') ∧ wpAnyT P ops Q S st fuel (listed.setIfInBounds i true) a' w') a w
theorem wpAny_of_T {P : Program} {ops : Array Oper} {Q : Post} {S : World → Prop} {st : Nat} : ∀ (fuel : Nat) (listed : Array Bool) (a : Act) (w : World), wpAnyT P ops Q S st fuel listed a w → wpAny P .any ops Q fuel listed a w
  | 0, _, _, _, h => h
  | fuel + 1, _, _, _, h => ⟨h.1, fun i hi => wpOp_mono (fun a' w' h' => wpAny_of_T fuel _ a' w' h'.2) (h.2 i hi)⟩
/-- Number st waits for number i. -/
def waitsFor (ops : Array Oper) (st i : Nat) : Bool := match ops[st]? with
  | none => true
  | some o => o.after.any fun e => Region.binds .any e && Nat.beq e.on i
/-- The same, or by way of others that have not come. -/
def waitsN (ops : Array Oper) (listed : Array Bool) (st : Nat) : Nat → Nat → Bool
  | 0, i => waitsFor ops st i
  | n + 1, i => waitsFor ops st i || (List.range ops.size).any fun k => waitsFor ops k i && !(listed.getD k true) && waitsN ops listed st n k
def waits (ops : Array Oper) (listed : Array Bool) (st i : Nat) : Bool := waitsN ops listed st ops.size i
theorem waitsFor_not {ops : Array Oper} {listed : Array Bool} {i j : Nat} (h : waitsFor ops j i = true) (hj : j ∈ Region.ready .any ops listed) (hi : listed.getD i true = false) : False := by
  obtain ⟨_, oj, hoj, hall⟩ := mem_ready.1 hj
  unfold waitsFor at h
  rw [hoj] at h
  simp only [Array.any_eq_true, Bool.and_eq_true] at h
  obtain ⟨k, hk, hb, he⟩ := h
  have h1 := hall _ (Array.getElem_mem hk) hb
  rw [Nat.eq_of_beq_eq_true he] at h1
  rcases Nat.lt_or_ge i listed.size with h' | h'
  · simp [h'] at hi h1; rw [hi] at h1; cases h1
  · simp [Array.getElem?_eq_none h'] at h1
theorem waits_ne {ops : Array Oper} {listed : Array Bool} {st j : Nat} (hj : j ∈ Region.ready .any ops listed) : ∀ (n i : Nat), waitsN ops listed st n i = true → listed.getD i true = false → j ≠ st
  | 0, i, h, hi => by rintro rfl; exact waitsFor_not h hj hi
  | n + 1, i, h, hi => by
    unfold waitsN at h
    rw [Bool.or_eq_true] at h
    rcases h with h | h
    · rintro rfl; exact waitsFor_not h hj hi
    · obtain ⟨k, _, hk⟩ := List.any_eq_true.1 h
      simp only [Bool.and_eq_true, Bool.not_eq_true'] at hk
      exact waits_ne hj n k hk.2 hk.1.2
theorem waits_set {ops : Array Oper} {listed : Array Bool} {st j : Nat} (hj : j ∈ Region.ready .any ops listed) : ∀ (n i : Nat), waitsN ops listed st n i = true → listed.getD i true = false → waitsN ops (listed.setIfInBounds j true) st n i = true
  | 0, i, h, hi => h
  | n + 1, i, h, hi => by
    unfold waitsN at h ⊢
    rw [Bool.or_eq_true] at h ⊢
    rcases h with h | h
    · exact .inl h
    · obtain ⟨k, hr, hk⟩ := List.any_eq_true.1 h
      refine .inr (List.any_eq_true.2 ⟨k, hr, ?_⟩)
      simp only [Bool.and_eq_true, Bool.not_eq_true'] at hk ⊢
      have : j ≠ k := by rintro rfl; exact waitsFor_not hk.1.1 hj hi
      exact ⟨⟨hk.1.1, by rw [getD_set_ne true this]; exact hk.1.2⟩, waits_set hj n k hk.2 hk.1.2⟩
theorem wpAnyT_first {P : Program} {ops : Array Oper} {Q : Post} {S : World → Prop} {st i : Nat} {oi : Oper} {v : Value} (hi : ops[i]? = some oi) (hsel : ∀ (j : Nat) (o : Oper) cs b, ops[j]? = some o → o.op ≠ .select cs b)
    (hQ : ∀ c a w, Q (.panic c) (a.put oi.dst v) w → Q (.panic c) a w) (hne : i ≠ st) :
    ∀ (fuel : Nat) (listed : Array Bool) (a : Act) (w : World), waits ops listed st i = true →
      (∀ j oj, ops[j]? = some oj → j ≠ i → listed.getD j true = false → (∀ e ∈ oj.after, Region.binds .any e = true → e.on ≠ i) → oi.apart ops oj = true) →
      i ∈ Region.ready .any ops listed → YieldsIf P ops S oi v a → S w → listed.getD st false = false →
      wpAnyT P ops Q S st fuel (listed.setIfInBounds i true) (a.put oi.dst v) w → wpAnyT P ops Q S st (fuel + 1) listed a w := by
  intro fuel
  induction fuel with
  | zero =>
    intro listed a w _ _ hr hy hS hst H
    refine ⟨fun h => (by rw [h] at hr; cases hr), fun j hj => ?_⟩
    by_cases hji : j = i
    · subst hji; exact hy.wpOp hi hS ⟨fun _ => hS, H⟩
    · have := ready_mono hj hji
      rw [H.1] at this
      cases this
  | succ fuel ih =>
    intro listed a w hw hfree hr hy hS hst H
    refine ⟨fun h => (by rw [h] at hr; cases hr), fun j hj => ?_⟩
    by_cases hji : j = i
    · subst hji; exact hy.wpOp hi hS ⟨fun _ => hS, H⟩
    · have h1 := H.2 j (ready_mono hj hji)
      obtain ⟨hjun, oj, hoj, hall⟩ := mem_ready.1 hj
      have hnot : ∀ e ∈ oj.after, Region.binds .any e = true → e.on ≠ i := fun e he hb heq => by
        have h1 := hall e he hb
        have h0 := (mem_ready.1 hr).1
        rw [heq] at h1
        rcases Nat.lt_or_ge i listed.size with h' | h'
        · simp [h'] at h0 h1; rw [h0] at h1; cases h1
        · simp [Array.getElem?_eq_none h'] at h1
      have hjst : j ≠ st := waits_ne hj _ i hw (mem_ready.1 hr).1
      have h2 := wpOp_putIf hoj (hfree j oj hoj hji hjun hnot) (fun cs b => hsel i oi cs b hi) (fun cs b => hsel j oj cs b hoj) hQ hy h1
      have hst' : ∀ x, x ≠ st → (listed.setIfInBounds x true).getD st false = false := fun x hx => by
        simp only [Array.getD_eq_getD_getElem?, Array.getElem?_setIfInBounds, if_neg hx] at hst ⊢
        exact hst
      have hst2 : ((listed.setIfInBounds i true).setIfInBounds j true).getD st false = false := by
        have := hst' i hne
        simp only [Array.getD_eq_getD_getElem?] at this ⊢
        rw [Array.getElem?_setIfInBounds, if_neg hjst]; exact this
      have hfree' : ∀ k ok, ops[k]? = some ok → k ≠ i → (listed.setIfInBounds j true).getD k true = false →
          (∀ e ∈ ok.after, Region.binds .any e = true → e.on ≠ i) → oi.apart ops ok = true := fun k ok hk hki hun hno => by
        refine hfree k ok hk hki ?_ hno
        by_cases hjk : j = k
        · subst hjk; exact hjun
        · rw [getD_set_ne true hjk] at hun; exact hun
      refine wpOp_mono (fun a' w' h3 => ⟨fun _ => h3.2.1 hst2, ih (listed.setIfInBounds j true) a' w' (waits_set hj _ i hw (mem_ready.1 hr).1) hfree' (ready_mono hr (Ne.symm hji)) h3.1 (h3.2.1 hst2) (hst' j hjst) ?_⟩) h2
      rw [Array.setIfInBounds_comm _ _ hji]
      exact h3.2.2
theorem wpAnyT_take {P : Program} {ops : Array Oper} {Q : Post} {S : World → Prop} {st i : Nat} {oi : Oper} {v : Value} {fuel : Nat} {listed : Array Bool} {a : Act} {w : World} (hi : ops[i]? = some oi)
    (hs : Region.noSelect ops = true) (hf : Region.free .any ops listed i = true) (hr : (Region.ready .any ops listed).contains i = true)
    (hQ : ∀ c a w, Q (.panic c) (a.put oi.dst v) w → Q (.panic c) a w) (hw : waits ops listed st i = true) (hne : i ≠ st) (hst : listed.getD st false = false) (hy : YieldsIf P ops S oi v a) (hS : S w)
    (h : wpAnyT P ops Q S st fuel (listed.setIfInBounds i true) (a.put oi.dst v) w) : wpAnyT P ops Q S st (fuel + 1) listed a w :=
  wpAnyT_first hi (Region.noSelect_spec hs) hQ hne fuel listed a w hw (Region.free_spec hi hf) (by simpa using hr) hy hS hst h

/-- Whatever order comes: what is stable in the whole region (till number st comes) is J, own. -/
def WA (C : Cx) (ops : Array Oper) (st : Nat) (J : IM) (own : AH) (fuel : Nat) (listed : Array Bool) (env : Env) (I : IM) (ah : AH) (Q : Post) : Prop :=
  ∀ a w, EnvOK C.n env a → Sim C.w0 I ah w → wpAnyT C.P ops (noPanic Q) (Sim C.w0 J own) st fuel listed a w
theorem Sim.weaken {w0 w : World} {I J : IM} {ah bh : AH} (h : Sim w0 J bh w) (hI : IM.le I J) (hs : ∀ b x, ah b = some x → bh b = some x) : Sim w0 I ah w :=
  ⟨h.base, fun b o v e => h.imm b o v (hI b o v e), fun b x e => h.own b x (hs b x e), fun b x e => by
    have hf := h.sep b x (hs b x e)
    have none : ∀ o, J b o = none → I b o = none := fun o e => by
      cases e' : I b o with
      | none => rfl
      | some v => rw [hI b o v e'] at e; cases e
    cases x with
    | cells vs => exact fun o => none o (hf o)
    | tail off fin => exact fun o ho => none o (hf o ho)
    | obj o => trivial⟩
theorem CW_draw {id : Nat} {l : List Oper} (st : Nat) (own : AH) (hm : C.P.follows .mixedOrders = true) (h : WA C l.toArray st I own l.length (Array.replicate l.length false) env I ah Q) : CW C (.region id l.toArray true) env I ah Q := by
  intro a w he hs
  refine wp_mono (wp_region_any hm (wpAny_of_T (S := Sim C.w0 I own) (st := st) (Q := noPanic Q) _ _ _ _ ?_)) (fun e a w h => by cases e <;> first | exact h | exact h.elim)
  have := h a _ he hs.drew
  simpa using this
theorem CW_drawS {id : Nat} {l : List Oper} (st : Nat) (hm : C.P.follows .mixedOrders = true) (h : WA C l.toArray st I ah l.length (Array.replicate l.length false) env I ah Q) : CW C (.region id l.toArray true) env I ah Q := CW_draw st ah hm h
section draw
variable {st : Nat} {J : IM} {own : AH} {fuel : Nat} {listed : Array Bool}
theorem WA_take {v : Value} (i : Nat) (hi : ops[i]? = some ⟨some d, op, ty, ps, af, none⟩)
    (hn : Region.noSelect ops = true) (hf : Region.free .any ops listed i = true) (hr : (Region.ready .any ops listed).contains i = true) (hw : waits ops listed st i = true) (hne : Nat.beq i st = false) (hst : listed.getD st false = false) (hd : Nat.blt d C.n = true)
    (hI : IM.le J I) (ho : ∀ b x, own b = some x → ah b = some x)
    (h : PE C env J own ⟨some d, op, ty, ps, af, none⟩ v) (k : WA C ops st J own fuel (listed.setIfInBounds i true) ((d, v) :: env) I ah Q) : WA C ops st J own (fuel + 1) listed env I ah Q := by
  intro a w he hs
  refine wpAnyT_take hi hn hf hr (fun c a w h => h.elim) hw (by rintro rfl; simp at hne) hst (.inl ⟨by simp [Region.wanted], fun w' hS => h a w' he hS⟩) (hs.weaken hI ho) ?_
  exact k _ _ (he.put hd v) hs
theorem WA_skip {j : Nat} {want b : Bool} {oj : Oper} {dj : Nat} (i : Nat) (hi : ops[i]? = some ⟨some d, op, ty, ps, af, some (j, want)⟩)
    (hj : ops[j]? = some oj) (hdj : oj.dst = some dj) (hb : look env dj = some (.bool b)) (hnb : b ≠ want)
    (hn : Region.noSelect ops = true) (hf : Region.free .any ops listed i = true) (hr : (Region.ready .any ops listed).contains i = true) (hw : waits ops listed st i = true) (hne : Nat.beq i st = false) (hst : listed.getD st false = false) (hd : Nat.blt d C.n = true)
    (hI : IM.le J I) (ho : ∀ b x, own b = some x → ah b = some x)
    (k : WA C ops st J own fuel (listed.setIfInBounds i true) ((d, undef) :: env) I ah Q) : WA C ops st J own (fuel + 1) listed env I ah Q := by
  intro a w he hs
  have hy : yielded ops a.tmps j = some b := by
    have := he.get dj _ hb
    simp [yielded, hj, hdj, this]
  refine wpAnyT_take hi hn hf hr (fun c a w h => h.elim) hw (by rintro rfl; simp at hne) hst (.inr ⟨by simp [Region.wanted, hy, hnb], rfl⟩) (hs.weaken hI ho) ?_
  exact k _ _ (he.put hd undef) hs
theorem WA_takeG {v : Value} {j : Nat} {want : Bool} {oj : Oper} {dj : Nat} (i : Nat) (hi : ops[i]? = some ⟨some d, op, ty, ps, af, some (j, want)⟩)
    (hj : ops[j]? = some oj) (hdj : oj.dst = some dj) (hb : look env dj = some (.bool want))
    (hn : Region.noSelect ops = true) (hf : Region.free .any ops listed i = true) (hr : (Region.ready .any ops listed).contains i = true) (hw : waits ops listed st i = true) (hne : Nat.beq i st = false) (hst : listed.getD st false = false) (hd : Nat.blt d C.n = true)
    (hI : IM.le J I) (ho : ∀ b x, own b = some x → ah b = some x)
    (h : PE C env J own ⟨some d, op, ty, ps, af, none⟩ v) (k : WA C ops st J own fuel (listed.setIfInBounds i true) ((d, v) :: env) I ah Q) : WA C ops st J own (fuel + 1) listed env I ah Q := by
  intro a w he hs
  have hy : yielded ops a.tmps j = some want := by
    have := he.get dj _ hb
    simp [yielded, hj, hdj, this]
  refine wpAnyT_take hi hn hf hr (fun c a w h => h.elim) hw (by rintro rfl; simp at hne) hst (v := v) (.inl ⟨by simp [Region.wanted, hy], fun w' hS => h a w' he hS⟩) (hs.weaken hI ho) ?_
  exact k _ _ (he.put hd v) hs
theorem WA_all {o : Oper} {R : Env → IM → AH → Prop} (i : Nat) (hi : ops[i]? = some o) (hg : o.guard = none) (hr : Region.ready .any ops listed = [i])
    (h : OE C env I ah o R) (hS : ∀ e' I' ah', R e' I' ah' → (listed.setIfInBounds i true).getD st false = false → IM.le J I' ∧ ∀ b x, own b = some x → ah' b = some x)
    (k : ∀ e' I' ah', R e' I' ah' → WA C ops st J own fuel (listed.setIfInBounds i true) e' I' ah' Q) : WA C ops st J own (fuel + 1) listed env I ah Q := by
  intro a w he hs
  refine ⟨fun h => (by rw [hr] at h; cases h), fun j hj => ?_⟩
  rw [hr] at hj
  simp only [List.mem_singleton] at hj
  subst hj
  unfold wpOp
  simp only [hi, Region.wanted, hg, if_true]
  refine .inl (h a w he hs _ _ fun e' I' ah' a' w' hR he' hs' => ⟨fun hl => hs'.weaken (hS _ _ _ hR hl).1 (hS _ _ _ hR hl).2, k _ _ _ hR a' w' he' hs'⟩)
/-- The one operation that may come up now. -/
theorem WA_op {o : Oper} {R : Env → IM → AH → Prop} (i : Nat) (hi : ops[i]? = some o) (hg : o.guard = none) (hr : Region.ready .any ops listed = [i])
    (h : OE C env I ah o R) (hS : ∀ e' I' ah', R e' I' ah' → IM.le J I' ∧ ∀ b x, own b = some x → ah' b = some x)
    (k : ∀ e' I' ah', R e' I' ah' → WA C ops st J own fuel (listed.setIfInBounds i true) e' I' ah' Q) : WA C ops st J own (fuel + 1) listed env I ah Q :=
  WA_all i hi hg hr h (fun e' I' ah' hR _ => hS e' I' ah' hR) k
/-- The same, where it is the one up to which things were stable. -/
theorem WA_last {o : Oper} {R : Env → IM → AH → Prop} (i : Nat) (hi : ops[i]? = some o) (hg : o.guard = none) (hr : Region.ready .any ops listed = [i]) (hl : (listed.setIfInBounds i true).getD i false = true)
    (h : OE C env I ah o R) (k : ∀ e' I' ah', R e' I' ah' → WA C ops i J own fuel (listed.setIfInBounds i true) e' I' ah' Q) : WA C ops i J own (fuel + 1) listed env I ah Q :=
  WA_all i hi hg hr h (fun e' I' ah' hR h0 => by rw [hl] at h0; cases h0) k
theorem WA_done (hr : Region.ready .any ops listed = []) (h : QA C Q .normal env I ah) : WA C ops st J own fuel listed env I ah Q := fun a w he hs => by
  cases fuel with
  | zero => exact ⟨hr, h a w he hs⟩
  | succ n => exact ⟨fun _ => h a w he hs, by rw [hr]; simp⟩
end draw


theorem PE_move {x : Operand} {v : Value} (hx : opv env x = some v) : PE C env I ah ⟨some d, .move x, ty, ps, af, none⟩ (v) := fun a w he _ => by simp [execOp, he.eval hx]
theorem PE_assign {x : Operand} {v : Value} (hx : opv env x = some v) : PE C env I ah ⟨some d, .assign x, ty, ps, af, none⟩ (v) := fun a w he _ => by simp [execOp, he.eval hx]
theorem PE_pick {c x y : Operand} {t : Bool} {v u : Value} (hc : opv env c = some (.bool t)) (hx : t = true → opv env x = some v) (hy : t = false → opv env y = some u)
    : PE C env I ah ⟨some d, .pick c x y, ty, ps, af, none⟩ (cond t v u) := fun a w he _ => by
    cases t with
    | true => simp [execOp, he.eval hc, asBool, he.eval (hx rfl)]
    | false => simp [execOp, he.eval hc, asBool, he.eval (hy rfl)]
/-- What a binary operation comes to, the operands' values known. -/
theorem PE_bin {op : BinOp} {tx ty' : TypeId} {x y : Operand} {u v r : Value} (hx : opv env x = some u) (hy : opv env y = some v)
    (hr : ∀ w, (do eqGuard op tx x y u v; binOp op tx u v : Sem Value).run C.P w = .ok r w) : PE C env I ah ⟨some d, .binOp op tx x y ty', ty, ps, af, none⟩ (r) := fun a w he _ => by
    have := hr w
    simp only [execOp, he.eval hx, he.eval hy, Sem.run_bind] at this ⊢
    rw [this]; rfl
theorem eqGuard_int (op : BinOp) (t : TypeId) (x y : Operand) (k k' : IntKind) (a b : Int) (P : Program) (w : World) : (eqGuard op t x y (.int k a) (.int k' b)).run P w = .ok () w := by
  unfold eqGuard; split <;> simp
theorem eqGuard_string (op : BinOp) (t : TypeId) (x y : Operand) (a b : ByteArray) (P : Program) (w : World) : (eqGuard op t x y (.string a) (.string b)).run P w = .ok () w := by
  unfold eqGuard; split <;> simp
theorem eqGuard_pointer (op : BinOp) (t : TypeId) (x y : Operand) (a b : Option Addr) (P : Program) (w : World) : (eqGuard op t x y (.pointer a) (.pointer b)).run P w = .ok () w := by
  unfold eqGuard; split <;> simp
theorem eqGuard_bool (op : BinOp) (t : TypeId) (x y : Operand) (a b : Bool) (P : Program) (w : World) : (eqGuard op t x y (.bool a) (.bool b)).run P w = .ok () w := by
  unfold eqGuard; split <;> simp
theorem eqGuard_slice (op : BinOp) (t : TypeId) (x y : Operand) (a b : Option Addr) (n c m e : Nat) (P : Program) (w : World) : (eqGuard op t x y (.slice a n c) (.slice b m e)).run P w = .ok () w := by
  unfold eqGuard; split <;> simp

section ints
variable {tx ty' : TypeId} {x y : Operand} {K : IntKind} {p q : Int}
theorem PE_add {r : Int} (hx : opv env x = some (.int K p)) (hy : opv env y = some (.int K q)) (hr : K.wrap (p + q) = r) : PE C env I ah ⟨some d, .binOp .add tx x y ty', ty, ps, af, none⟩ (.int K r) :=
  PE_bin hx hy (fun w => by simp [eqGuard_int, binOp, Op.intArith, hr])
theorem PE_sub {r : Int} (hx : opv env x = some (.int K p)) (hy : opv env y = some (.int K q)) (hr : K.wrap (p - q) = r) : PE C env I ah ⟨some d, .binOp .sub tx x y ty', ty, ps, af, none⟩ (.int K r) :=
  PE_bin hx hy (fun w => by simp [eqGuard_int, binOp, Op.intArith, hr])
theorem PE_mul {r : Int} (hx : opv env x = some (.int K p)) (hy : opv env y = some (.int K q)) (hr : K.wrap (p * q) = r) : PE C env I ah ⟨some d, .binOp .mul tx x y ty', ty, ps, af, none⟩ (.int K r) :=
  PE_bin hx hy (fun w => by simp [eqGuard_int, binOp, Op.intArith, hr])
theorem PE_quo {r : Int} (hx : opv env x = some (.int K p)) (hy : opv env y = some (.int K q)) (h0 : q ≠ 0) (hr : K.wrap (p.tdiv q) = r) : PE C env I ah ⟨some d, .binOp .quo tx x y ty', ty, ps, af, none⟩ (.int K r) :=
  PE_bin hx hy (fun w => by simp [eqGuard_int, binOp, Op.intDiv, hr, h0])
theorem PE_rem {r : Int} (hx : opv env x = some (.int K p)) (hy : opv env y = some (.int K q)) (h0 : q ≠ 0) (hr : p.tmod q = r) : PE C env I ah ⟨some d, .binOp .rem tx x y ty', ty, ps, af, none⟩ (.int K r) :=
  PE_bin hx hy (fun w => by simp [eqGuard_int, binOp, Op.intDiv, hr, h0])
theorem PE_lss {b : Bool} (hx : opv env x = some (.int K p)) (hy : opv env y = some (.int K q)) (hb : decide (p < q) = b) : PE C env I ah ⟨some d, .binOp .lss tx x y ty', ty, ps, af, none⟩ (.bool b) :=
  PE_bin hx hy (fun w => by simp [eqGuard_int, binOp, Op.intCmp, hb])
theorem PE_leq {b : Bool} (hx : opv env x = some (.int K p)) (hy : opv env y = some (.int K q)) (hb : decide (p ≤ q) = b) : PE C env I ah ⟨some d, .binOp .leq tx x y ty', ty, ps, af, none⟩ (.bool b) :=
  PE_bin hx hy (fun w => by simp [eqGuard_int, binOp, Op.intCmp, hb])
theorem PE_gtr {b : Bool} (hx : opv env x = some (.int K p)) (hy : opv env y = some (.int K q)) (hb : decide (q < p) = b) : PE C env I ah ⟨some d, .binOp .gtr tx x y ty', ty, ps, af, none⟩ (.bool b) :=
  PE_bin hx hy (fun w => by simp [eqGuard_int, binOp, Op.intCmp, hb])
theorem PE_geq {b : Bool} (hx : opv env x = some (.int K p)) (hy : opv env y = some (.int K q)) (hb : decide (q ≤ p) = b) : PE C env I ah ⟨some d, .binOp .geq tx x y ty', ty, ps, af, none⟩ (.bool b) :=
  PE_bin hx hy (fun w => by simp [eqGuard_int, binOp, Op.intCmp, hb])
theorem PE_eqi {b : Bool} (hx : opv env x = some (.int K p)) (hy : opv env y = some (.int K q)) (hb : decide (p = q) = b) : PE C env I ah ⟨some d, .binOp .eql tx x y ty', ty, ps, af, none⟩ (.bool b) :=
  PE_bin hx hy (fun w => by simp [eqGuard_int, binOp, Op.intCmp, ← hb]; rfl)
theorem PE_nei {b : Bool} (hx : opv env x = some (.int K p)) (hy : opv env y = some (.int K q)) (hb : decide (p ≠ q) = b) : PE C env I ah ⟨some d, .binOp .neq tx x y ty', ty, ps, af, none⟩ (.bool b) :=
  PE_bin hx hy (fun w => by
    rw [show binOp .neq tx (.int K p) (.int K q) = Op.intCmp .neq p q by simp [binOp]]
    simp only [eqGuard_int, Sem.run_bind, Result.andThen_ok, Op.intCmp, Sem.run_pure, ← hb]
    congr 2
    by_cases e : p = q <;> simp [e])
theorem PE_bits {op : BinOp} {r : Int} (hx : opv env x = some (.int K p)) (hy : opv env y = some (.int K q)) (ho : op = .and ∨ op = .or ∨ op = .xor ∨ op = .andNot)
    (hr : Op.intBits op K p q = pure (.int K r)) : PE C env I ah ⟨some d, .binOp op tx x y ty', ty, ps, af, none⟩ (.int K r) :=
  PE_bin hx hy (fun w => by rcases ho with rfl | rfl | rfl | rfl <;> simp [eqGuard_int, binOp, hr])
theorem PE_shift {op : BinOp} {K' : IntKind} {r : Int} (hx : opv env x = some (.int K p)) (hy : opv env y = some (.int K' q)) (ho : op = .shl ∨ op = .shr)
    (hr : Op.shift op K p K' q = pure (.int K r)) : PE C env I ah ⟨some d, .binOp op tx x y ty', ty, ps, af, none⟩ (.int K r) :=
  PE_bin hx hy (fun w => by rcases ho with rfl | rfl <;> simp [eqGuard_int, binOp, hr])
end ints

theorem PE_un {op : UnOp} {tx : TypeId} {x : Operand} {u r : Value} (hx : opv env x = some u) (hr : Op.unary op u = pure r)
    : PE C env I ah ⟨some d, .unOp op tx x, ty, ps, af, none⟩ (r) := fun a w he _ => by simp [execOp, he.eval hx, hr]
/-- Equality of two strings. -/
theorem PE_eqs {tx ty' : TypeId} {x y : Operand} {s t : ByteArray} {b : Bool} (hx : opv env x = some (.string s)) (hy : opv env y = some (.string t)) (hb : decide (s = t) = b)
    : PE C env I ah ⟨some d, .binOp .eql tx x y ty', ty, ps, af, none⟩ (.bool b) :=
  PE_bin hx hy (fun w => by
    have e : (s.toList == t.toList) = decide (s = t) := by
      rw [Bool.eq_iff_iff, Lib.toList_data, Lib.toList_data]; simp only [beq_iff_eq, decide_eq_true_eq]
      exact ⟨fun h => by cases s; cases t; simp_all [Array.ext_iff], fun h => by rw [h]⟩
    simp [eqGuard_string, binOp, Op.stringOp, e, hb])
/-! ### Memory -/
theorem add_none (b o n : Nat) : (⟨b, o, none⟩ : Addr).add n = ⟨b, o + n, none⟩ := by unfold Addr.add; split <;> simp_all
/-- A cell that can be read. -/
def Cell (I : IM) (ah : AH) (b o : Nat) (v : Value) : Prop := I b o = some v ∨ ∃ vs, ah b = some (.cells vs) ∧ vs[o]? = some v
theorem Cell.imm {I : IM} {ah : AH} {b o : Nat} {v : Value} (h : I b o = some v) : Cell I ah b o v := .inl h
theorem Cell.own {I : IM} {ah : AH} {b o : Nat} {v : Value} {vs : List Value} (h : ah b = some (.cells vs)) (hv : vs[o]? = some v) : Cell I ah b o v := .inr ⟨vs, h, hv⟩
theorem Cell.get {I : IM} {ah : AH} {b o : Nat} {v : Value} (h : Cell I ah b o v) {w0 w : World} (hs : Sim w0 I ah w) : w.cell? ⟨b, o, none⟩ = some v := by
  rcases h with h | ⟨vs, h, hv⟩
  · exact hs.imm _ _ _ h
  · rw [hs.cellOwn h]; exact hv
/-- Cells that can be read, one behind the other. -/
def Cells (I : IM) (ah : AH) (b o : Nat) (vs : List Value) : Prop := ∀ i v, vs[i]? = some v → Cell I ah b (o + i) v
theorem Cells.nil (I : IM) (ah : AH) (b o : Nat) : Cells I ah b o [] := fun i v h => by simp at h
theorem Cells.own {I : IM} {ah : AH} {b : Nat} {vs : List Value} (h : ah b = some (.cells vs)) : Cells I ah b 0 vs := fun i v hv => .own h (by simpa using hv)
theorem Cells.ownAt {I : IM} {ah : AH} {b o : Nat} {ws vs : List Value} (h : ah b = some (.cells ws)) (hv : (ws.drop o).take vs.length = vs) : Cells I ah b o vs := fun i v hi => by
  refine .own h ?_
  have hl : i < vs.length := (List.getElem?_eq_some_iff.1 hi).1
  rw [← hv, List.getElem?_take] at hi
  simpa [hl] using hi
theorem Cells.get {I : IM} {ah : AH} {b o : Nat} {vs : List Value} (h : Cells I ah b o vs) {w0 w : World} (hs : Sim w0 I ah w) : ∀ j v, vs[j]? = some v → w.cell? ((⟨b, o, none⟩ : Addr).add j) = some v :=
  fun j v hj => by rw [add_none]; exact (h j v hj).get hs

/-- A type of one cell; of a struct or an array of n cells. -/
structure TC (P : Program) (t : TypeId) : Prop where
  agg : ∀ w, (isAgg t).run P w = .ok false w
  size : ∀ w, (sizeOf t).run P w = .ok 1 w
structure TA (P : Program) (t n : Nat) : Prop where
  agg : ∀ w, (isAgg t).run P w = .ok true w
  size : ∀ w, (sizeOf t).run P w = .ok n w

theorem PE_load {t : TypeId} {x : Operand} {b o : Nat} {v : Value} (ht : TC C.P t) (hx : opv env x = some (.pointer (some ⟨b, o, none⟩))) (hc : Cell I ah b o v)
    : PE C env I ah ⟨some d, .load t x, ty, ps, af, none⟩ (v) := fun a w he hs => by simp [execOp, he.eval hx, Instr.loadAt, Instr.sureAddr, loadVar, ht.agg, hc.get hs]
theorem PE_loadA {t n : TypeId} {x : Operand} {b o : Nat} {vs : List Value} (ht : TA C.P t n) (hx : opv env x = some (.pointer (some ⟨b, o, none⟩))) (hn : vs.length = n) (hc : Cells I ah b o vs)
    : PE C env I ah ⟨some d, .load t x, ty, ps, af, none⟩ (.agg vs.toArray) := fun a w he hs => by
    have := run_loadCells_list (P := C.P) w ⟨b, o, none⟩ vs (hc.get hs)
    simp [execOp, he.eval hx, Instr.loadAt, Instr.sureAddr, loadVar, ht.agg, ht.size, ← hn, this]
theorem OE_store {t : TypeId} {x y : Operand} {b o : Nat} {v : Value} {vs : List Value} (ht : TC C.P t) (hx : opv env x = some (.pointer (some ⟨b, o, none⟩))) (hy : opv env y = some v) (h1 : v.oneCell' = true)
    (hb : ah b = some (.cells vs)) (ho : o < vs.length) : OE C env I ah ⟨none, .store t x y, ty, ps, af, none⟩ (fun e' I' ah' => env = e' ∧ I = I' ∧ ah.set b (.cells (vs.set o v)) = ah') :=
  OE_deed (fun a w he hs => by
    refine ⟨w.setCell ⟨b, o, none⟩ v, _, _, ?_, hs.store hb v, rfl, rfl, rfl⟩
    have hv : v.cells = #[v] := by cases v <;> first | rfl | (simp [Value.oneCell'] at h1)
    have hst : (store (⟨b, o, none⟩ : Addr) v).run C.P w = .ok () (w.setCell ⟨b, o, none⟩ v) := by
      rw [run_store C.P w _ v _ h1, hs.cellOwn hb, List.getElem?_eq_getElem ho]; simp [hs.frozenOwn hb]
    simp [execOp, he.eval hx, he.eval hy, Instr.storeAt, Instr.sureAddr, storeVar, ht.size, hv, storeCells, add_none, hst])
theorem setRow_sim {w0 w : World} (h : Sim w0 I ah w) {b : Nat} {vs us : List Value} (hb : ah b = some (.cells vs)) : Sim w0 I (ah.set b (.cells us)) (w.setRow b us.toArray) := by
  obtain ⟨T, hh⟩ := (h.own b _ hb).2
  have hT := setRow_heap w b vs.toArray us.toArray T _ hh
  refine ⟨⟨h.base.os, h.base.tape, h.base.output, by rw [setRow_size]; exact h.base.size, fun k hk => ?_⟩, fun k p u e => ?_, fun k x e => ?_, fun k x e => ?_⟩
  · rw [setRow_other w b k _ (by have := (h.own b _ hb).1; omega)]; exact h.base.block k hk
  · have hk : k ≠ b := by rintro rfl; rw [h.freeI hb] at e; cases e
    rw [World.cell?_of_block (w := w) (setRow_other w b k _ hk)]; exact h.imm k p u e
  · simp only [AH.set] at e
    split at e
    · cases e; rename_i hk; subst hk; exact ⟨(h.own k _ hb).1, T, hT⟩
    · rename_i hk; exact ⟨(h.own k x e).1, AObj.at_congr (h.own k x e).2 (setRow_other w b k _ hk)⟩
  · simp only [AH.set] at e
    split at e
    · cases e; rename_i hk; subst hk; exact fun o => h.sep k _ hb o
    · exact h.sep k x e
/-- A row, some of its cells others. -/
def splice (vs : List Value) (o : Nat) (us : List Value) : List Value := vs.take o ++ us ++ vs.drop (o + us.length)
theorem OE_storeA {t n : TypeId} {x y : Operand} {b o : Nat} {us : List Value} {vs : List Value} (ht : TA C.P t n) (hx : opv env x = some (.pointer (some ⟨b, o, none⟩))) (hy : opv env y = some (.agg us.toArray)) (hn : us.length = n)
    (h1 : ∀ u ∈ us, u.oneCell' = true) (hb : ah b = some (.cells vs)) (ho : o + us.length ≤ vs.length) :
    OE C env I ah ⟨none, .store t x y, ty, ps, af, none⟩ (fun e' I' ah' => env = e' ∧ I = I' ∧ ah.set b (.cells (splice vs o us)) = ah') :=
  OE_deed (fun a w he hs => by
    obtain ⟨T, hh⟩ := (hs.own b _ hb).2
    have hst := run_storeCells_at C.P b o T us 0 vs.toArray w hh (by simpa using ho) h1
    refine ⟨_, _, _, ?_, setRow_sim hs hb (us := splice vs o us), rfl, rfl, rfl⟩
    simp only [Nat.add_zero] at hst
    simp [execOp, he.eval hx, he.eval hy, Instr.storeAt, Instr.sureAddr, storeVar, ht.size, Value.cells, hn, hst]
    simp [splice, hn])

/-- A new variable. -/
theorem OE_box {t : TypeId} {x : Operand} {v : Value} (hd : Nat.blt d C.n = true) (hx : opv env x = some v) :
    OE C env I ah ⟨some d, .box t x, ty, ps, af, none⟩ (fun e' I' ah' => ∃ b, (d, .pointer (some ⟨b, 0, none⟩)) :: env = e' ∧ I = I' ∧ ah.set b (.cells v.cells.toList) = ah' ∧ ah b = none ∧ C.w0.heap.size ≤ b) :=
  OE_ex hd (fun a w he hs => ⟨_, _, _, _, by simp [execOp, he.eval hx, Instr.box, newVar, newRow]; rfl, hs.alloc_cells _ _, w.heap.size, rfl, rfl, rfl, hs.fresh, hs.base.size⟩)
theorem OE_alloc {t : TypeId} {z : Value} (hd : Nat.blt d C.n = true) (hz : ∀ w, (zeroValue t).run C.P w = .ok z w) :
    OE C env I ah ⟨some d, .alloc t, ty, ps, af, none⟩ (fun e' I' ah' => ∃ b, (d, .pointer (some ⟨b, 0, none⟩)) :: env = e' ∧ I = I' ∧ ah.set b (.cells z.cells.toList) = ah' ∧ ah b = none ∧ C.w0.heap.size ≤ b) :=
  OE_ex hd (fun a w he hs => ⟨_, _, _, _, by simp [execOp, hz, Instr.alloc, newVar, newRow]; rfl, hs.alloc_cells _ _, w.heap.size, rfl, rfl, rfl, hs.fresh, hs.base.size⟩)

theorem PE_nilCheck {x : Operand} {p : Addr} (hx : opv env x = some (.pointer (some p))) : PE C env I ah ⟨some d, .nilCheck x, ty, ps, af, none⟩ (.pointer (some p)) := fun a w he _ => by simp [execOp, he.eval hx]
/-- Where a field begins. -/
def FieldAt (P : Program) (s j off : Nat) : Prop := ∀ b o w, (Instr.fieldAt s (.pointer (some ⟨b, o, none⟩)) j).run P w = .ok (.pointer (some ⟨b, o + off, none⟩)) w
theorem PE_fieldAddr {s j off b o : Nat} {x : Operand} (hf : FieldAt C.P s j off) (hx : opv env x = some (.pointer (some ⟨b, o, none⟩))) : PE C env I ah ⟨some d, .fieldAddr s x j, ty, ps, af, none⟩ (.pointer (some ⟨b, o + off, none⟩)) := fun a w he _ => by simp [execOp, he.eval hx, hf b o w]
theorem PE_field {s j : Nat} {x : Operand} {u v : Value} (hx : opv env x = some u) (hf : ∀ w, (Instr.field s u j).run C.P w = .ok v w) : PE C env I ah ⟨some d, .field s x j, ty, ps, af, none⟩ (v) := fun a w he _ => by simp [execOp, he.eval hx, hf w]
theorem PE_extract {x : Operand} {j : Nat} {vs : Array Value} {v : Value} (hx : opv env x = some (.tuple vs)) (hv : vs[j]? = some v) : PE C env I ah ⟨some d, .extract x j, ty, ps, af, none⟩ (v) := fun a w he _ => by simp [execOp, he.eval hx, Instr.extract, hv]
theorem PE_makeFunc {fn : Fn} {l m : List Operand} {us vs : List Value} (h1 : opvs env l = some us) (h2 : opvs env m = some vs) : PE C env I ah ⟨some d, .makeFunc fn l.toArray m.toArray, ty, ps, af, none⟩ (.func fn us.toArray vs.toArray) := fun a w he _ => by simp [execOp, Instr.makeFunc, he.evals h1, he.evals h2]
def opps (env : Env) : List (Nat × Operand) → Option (List (Nat × Value))
  | [] => some []
  | (i, x) :: r => match opv env x, opps env r with
    | some v, some vs => some ((i, v) :: vs)
    | _, _ => none
theorem EnvOK.evalps {n : Nat} {env : Env} {a : Act} (h : EnvOK n env a) : ∀ {xs : List (Nat × Operand)} {vs : List (Nat × Value)}, opps env xs = some vs → xs.map (fun (i, x) => (i, a.eval x)) = vs
  | [], vs, e => by cases e; rfl
  | (i, x) :: r, vs, e => by
    unfold opps at e
    split at e
    · rename_i v us hv hu
      cases e
      simp [h.eval hv, h.evalps hu]
    · cases e
theorem PE_build {t : TypeId} {l : List (Nat × Operand)} {us : List (Nat × Value)} {v : Value} (h1 : opps env l = some us) (hv : ∀ w, (Instr.build t us.toArray).run C.P w = .ok v w) : PE C env I ah ⟨some d, .build t l.toArray, ty, ps, af, none⟩ (v) := fun a w he _ => by
    have e := he.evalps h1
    have : (l.toArray.map fun x => match x with | (i, x) => (i, a.eval x)) = us.toArray := by rw [← e]; simp
    simp only [execOp, this, Sem.run_bind, hv w]; rfl
/-- A literal slice: a row of one's own, all of it used. -/
theorem OE_buildSlice {t T : TypeId} {n : Nat} {l : List (Nat × Operand)} {us : List (Nat × Value)} {vs : List Value} (hd : Nat.blt d C.n = true) (h1 : opps env l = some us)
    (hv : ∀ w, (Instr.buildSlice t n us.toArray).run C.P w = .ok (.slice (some ⟨w.heap.size, 0, none⟩) n n) (w.alloc (.cells vs.toArray T))) :
    OE C env I ah ⟨some d, .buildSlice t n l.toArray, ty, ps, af, none⟩ (fun e' I' ah' => ∃ b, (d, .slice (some ⟨b, 0, none⟩) n n) :: env = e' ∧ I = I' ∧ ah.set b (.cells vs) = ah' ∧ ah b = none ∧ C.w0.heap.size ≤ b) :=
  OE_ex hd (fun a w he hs => by
      have e := he.evalps h1
      have : (l.toArray.map fun x => match x with | (i, x) => (i, a.eval x)) = us.toArray := by rw [← e]; simp
      refine ⟨_, _, _, _, by simp only [execOp, this, Sem.run_bind, hv w]; rfl, hs.alloc_cells _ T, w.heap.size, rfl, rfl, by simp, hs.fresh, hs.base.size⟩)

/-! ### Calls -/
/-- Function f has a body. -/
def Enters (P : Program) (f : FuncId) : Prop := ∀ args w, (callFunc f args).run P w = .ok (.enter f args) w
theorem OE_call {f : FuncId} {l : List Operand} {ts : Array TypeId} {vs : List Value} {post : Value → IM → AH → Prop} (hE : Enters C.P f) (hd : Nat.blt d C.n = true) (h1 : opvs env l = some vs) (hc : SC C.P C.w0 f vs I ah post) :
    OE C env I ah ⟨some d, .call ⟨.value (.func f), l.toArray, ts⟩, ty, ps, af, none⟩ (fun e' I' ah' => ∃ v, (d, v) :: env = e' ∧ IM.le I I' ∧ post v I' ah') := by
  intro a w he hs K Q hK
  have e := he.evals h1
  have : (execOp a.eval ⟨some d, .call ⟨.value (.func f), l.toArray, ts⟩, ty, ps, af, none⟩).run C.P w = .ok (.enter f vs.toArray) w := by
    simp [execOp, resolve, Act.eval, Deferred.ofValue, invoke, hE vs.toArray w, e]
  unfold Oper.wp
  rw [this, Oper.upon_enter]
  refine (hc w hs).mono ?_
  rintro e' w' ⟨v, I', ah', rfl, hI, hs', hp⟩
  exact hK _ I' ah' _ _ ⟨v, rfl, hI, hp⟩ (he.put hd v) hs'
theorem OE_call0 {f : FuncId} {l : List Operand} {ts : Array TypeId} {vs : List Value} {post : Value → IM → AH → Prop} (hE : Enters C.P f) (h1 : opvs env l = some vs) (hc : SC C.P C.w0 f vs I ah post) :
    OE C env I ah ⟨none, .call ⟨.value (.func f), l.toArray, ts⟩, ty, ps, af, none⟩ (fun e' I' ah' => ∃ v, env = e' ∧ IM.le I I' ∧ post v I' ah') := by
  intro a w he hs K Q hK
  have e := he.evals h1
  have : (execOp a.eval ⟨none, .call ⟨.value (.func f), l.toArray, ts⟩, ty, ps, af, none⟩).run C.P w = .ok (.enter f vs.toArray) w := by
    simp [execOp, resolve, Act.eval, Deferred.ofValue, invoke, hE vs.toArray w, e]
  unfold Oper.wp
  rw [this, Oper.upon_enter]
  refine (hc w hs).mono ?_
  rintro e' w' ⟨v, I', ah', rfl, hI, hs', hp⟩
  exact hK _ I' ah' _ _ ⟨v, rfl, hI, hp⟩ he hs'
/-- A call of a closure. -/
theorem OE_callv {g : Operand} {f : FuncId} {fs cs : List Value} {l : List Operand} {ts : Array TypeId} {vs : List Value} {post : Value → IM → AH → Prop} (hE : Enters C.P f) (hd : Nat.blt d C.n = true) (hg : opv env g = some (.func (.func f) fs.toArray cs.toArray)) (h1 : opvs env l = some vs) (hc : SC C.P C.w0 f (fs ++ vs ++ cs) I ah post) :
    OE C env I ah ⟨some d, .call ⟨.value g, l.toArray, ts⟩, ty, ps, af, none⟩ (fun e' I' ah' => ∃ v, (d, v) :: env = e' ∧ IM.le I I' ∧ post v I' ah') := by
  intro a w he hs K Q hK
  have e := he.evals h1
  have : (execOp a.eval ⟨some d, .call ⟨.value g, l.toArray, ts⟩, ty, ps, af, none⟩).run C.P w = .ok (.enter f (fs ++ vs ++ cs).toArray) w := by
    simp [execOp, resolve, he.eval hg, Deferred.ofValue, invoke, e]
    have := hE (fs ++ vs ++ cs).toArray w
    simp only [List.append_assoc] at this
    rw [this]
  unfold Oper.wp
  rw [this, Oper.upon_enter]
  refine (hc w hs).mono ?_
  rintro e' w' ⟨v, I', ah', rfl, hI, hs', hp⟩
  exact hK _ I' ah' _ _ ⟨v, rfl, hI, hp⟩ (he.put hd v) hs'
end
end SL
end Go.Proofs.YthdpebagkfloaaaDoor
