/- Heaps abstracted; maps keyed by strings; ranges over them. -/
import Derived.Test.YthdpebagkfloaaaDoorSlF
namespace Go.Proofs.YthdpebagkfloaaaDoor
open Go Go.RowKit
set_option linter.unusedVariables false
namespace SL
section
variable {C : Cx} {env : Env} {I : IM} {ah : AH} {Q : Post} {ops : Array Oper}
theorem QA_forget {e : Exit} {ah' : AH} (s : ∀ b x, ah' b = some x → ah b = some x) (h : QA C Q e env I ah') : QA C Q e env I ah := fun a w he hs => h a w he (hs.forget s)
theorem WA_forget {st fuel : Nat} {J : IM} {own ah' : AH} {listed : Array Bool} (s : ∀ b x, ah' b = some x → ah b = some x) (h : WA C ops st J own fuel listed env I ah' Q) : WA C ops st J own fuel listed env I ah Q := fun a w he hs => h a w he (hs.forget s)
theorem WL_forget {l : List Oper} {ah' : AH} (s : ∀ b x, ah' b = some x → ah b = some x) (h : WL C ops l env I ah' Q) : WL C ops l env I ah Q := fun a w he hs => h a w he (hs.forget s)
theorem WL_heap {l : List Oper} (p : AH → Prop) (h : p ah) (k : ∀ A, p A → WL C ops l env I A Q) : WL C ops l env I ah Q := k _ h
theorem CW_heap {c : Code} (p : AH → Prop) (h : p ah) (k : ∀ A, p A → CW C c env I A Q) : CW C c env I ah Q := k _ h
theorem QA_heap {e : Exit} (p : AH → Prop) (h : p ah) (k : ∀ A, p A → QA C Q e env I A) : QA C Q e env I ah := k _ h
end
theorem AH.set_sub {a b : AH} {s : Nat} {x : AObj} (h : ∀ k y, a k = some y → b k = some y) : ∀ k y, (a.set s x) k = some y → (b.set s x) k = some y := by
  intro k y e
  simp only [AH.set] at e ⊢
  split
  · rename_i hk; rw [if_pos hk] at e; exact e
  · rename_i hk; rw [if_neg hk] at e; exact h k y e
theorem AH.keep1 {ah : AH} {b c : Nat} (x : AObj) {y : AObj} (hb : ah b = none) (h : ah c = some y) : (ah.set b x) c = some y := by
  rw [AH.set_ne]; exact h; rintro rfl; rw [hb] at h; cases h
/-- Nothing is owned at b. -/
abbrev Free (ah : AH) (b : Nat) : Prop := ah b = none
theorem free_ne {ah : AH} {b c : Nat} {x : AObj} (h : (ah.set b x) c = none) : b ≠ c := by rintro rfl; simp at h
theorem free_of {ah : AH} {b c : Nat} {x : AObj} (h : (ah.set b x) c = none) : ah c = none := by rw [AH.set_ne _ _ (Ne.symm (free_ne h))] at h; exact h
theorem ne_of_some {ah : AH} {b c : Nat} {x : AObj} (h : ah b = some x) (hc : ah c = none) : b ≠ c := by rintro rfl; rw [h] at hc; cases hc

/-! ### Maps keyed by strings -/
theorem beq_ba (a b : ByteArray) : (a == b) = decide (a = b) := by
  have h : (a == b) = (a.data == b.data) := rfl
  rw [h]
  by_cases e : a = b
  · subst e; simp
  · have : a.data ≠ b.data := fun hd => e (by cases a; cases b; simp_all)
    simp [e, this]
/-- Entries, in the order in which they were put: key, value, stamp. -/
abbrev Ents := List (ByteArray × Value × Nat)
def toE (p : ByteArray × Value × Nat) : MapEntry := ⟨.string p.1, p.2.1, p.2.2⟩
def ments (l : Ents) : Array MapEntry := (l.map toE).toArray
abbrev mobj (l : Ents) (clk : Nat) : AObj := .obj (.map (ments l) clk)
def getL (k : ByteArray) : Ents → Option Value
  | [] => none
  | p :: r => if k = p.1 then some p.2.1 else getL k r
def posL (k : ByteArray) : Ents → Nat → Option (Nat × Value)
  | [], _ => none
  | p :: r, i => if k = p.1 then some (i, p.2.1) else posL k r (i + 1)
def putL (k : ByteArray) (v : Value) (clk : Nat) : Ents → Ents
  | [] => [(k, v, clk)]
  | p :: r => if k = p.1 then (k, v, p.2.2) :: r else p :: putL k v clk r
def delL (k : ByteArray) : Ents → Ents
  | [] => []
  | p :: r => if k = p.1 then r else p :: delL k r
def putC (k : ByteArray) (clk : Nat) (l : Ents) : Nat := if (getL k l).isSome then clk else clk + 1
theorem posL_get (k : ByteArray) : ∀ (l : Ents) (i : Nat), (posL k l i).map Prod.snd = getL k l
  | [], i => rfl
  | p :: r, i => by unfold posL getL; split; rfl; exact posL_get k r (i + 1)
theorem findNow_pos (k : ByteArray) : ∀ (l : Ents) (i : Nat), Instr.findNow .string (.string k) (l.map toE) i = some (posL k l i)
  | [], i => rfl
  | p :: r, i => by
    have e : Instr.sameNow .string (.string k) (toE p).key = some (decide (k = p.1)) := by
      show some (k == p.1) = _; rw [beq_ba]
    simp only [List.map_cons, Instr.findNow, e, posL]
    by_cases h : k = p.1
    · simp [h, toE]
    · simp only [h, decide_false, if_false]; exact findNow_pos k r (i + 1)
theorem ments_list (l : Ents) : (ments l).toList = l.map toE := rfl
theorem run_findKey {P : Program} {kt : Nat} (hk : P.underlying kt = some .string) (k : ByteArray) (l : Ents) (w : World) :
    (Instr.findKey kt (.string k) (ments l).toList).run P w = .ok (posL k l 0) w := by
  simp only [Instr.findKey, Sem.run_bind, run_underlying hk, Result.andThen_ok, ments_list, findNow_pos, Sem.run_pure]
theorem run_checkKey {P : Program} {kt : Nat} (hk : P.underlying kt = some .string) (k : ByteArray) (b : Bool) (w : World) :
    (Instr.checkKey b 10000 kt (.string k)).run P w = .ok () w := by
  unfold Instr.checkKey
  simp only [Sem.run_bind, run_underlying hk, Result.andThen_ok, Sem.run_pure]
theorem run_getObj (P : Program) {w : World} {b : Nat} {o : Obj} (h : w.heap[b]? = some o ∧ Obj.isCells o = false) : (getObj b).run P w = .ok o w := by
  obtain ⟨h, k⟩ := h
  cases o <;> first | (cases k; done) | simp [getObj, Sem.run, h]
theorem run_setObj (P : Program) {w : World} {b : Nat} {o : Obj} (o' : Obj) (h : w.heap[b]? = some o ∧ Obj.isCells o = false) : (setObj b o').run P w = .ok () { w with heap := w.heap.setIfInBounds b o' } := by
  obtain ⟨h, k⟩ := h
  cases o <;> first | (cases k; done) | simp [setObj, Sem.run, h]

theorem posL_ge (k : ByteArray) : ∀ (l : Ents) (i j : Nat) (v : Value), posL k l i = some (j, v) → i ≤ j ∧ ∃ p, l[j - i]? = some p ∧ p.1 = k ∧ p.2.1 = v
  | [], i, j, v, h => by cases h
  | p :: r, i, j, v, h => by
    unfold posL at h
    split at h
    · cases h; exact ⟨Nat.le_refl _, p, by simp, by simp_all, rfl⟩
    · obtain ⟨h1, q, h2, h3⟩ := posL_ge k r (i + 1) j v h
      refine ⟨by omega, q, ?_, h3⟩
      rw [show j - i = (j - (i + 1)) + 1 by omega]; simpa using h2
theorem put_some (k : ByteArray) (u : Value) (clk : Nat) : ∀ (l : Ents) (i j : Nat) (v : Value), posL k l i = some (j, v) →
    (l.map toE).modify (j - i) (fun e => { e with key := .string k, val := u }) = (putL k u clk l).map toE
  | [], i, j, v, h => by cases h
  | p :: r, i, j, v, h => by
    unfold posL at h
    unfold putL
    split at h
    · rename_i hk; cases h; rw [if_pos hk]; simp [toE]
    · rename_i hk
      have h1 := (posL_ge k r (i + 1) j v h).1
      rw [if_neg hk, show j - i = (j - (i + 1)) + 1 by omega]
      simp only [List.map_cons, List.modify_succ_cons]
      rw [put_some k u clk r (i + 1) j v h]
theorem put_none (k : ByteArray) (u : Value) (clk : Nat) : ∀ (l : Ents) (i : Nat), posL k l i = none → putL k u clk l = l ++ [(k, u, clk)]
  | [], i, h => rfl
  | p :: r, i, h => by
    unfold posL at h
    unfold putL
    split at h
    · cases h
    · rename_i hk; rw [if_neg hk, put_none k u clk r (i + 1) h]; rfl
theorem del_some (k : ByteArray) : ∀ (l : Ents) (i j : Nat) (v : Value), posL k l i = some (j, v) → (l.map toE).eraseIdx (j - i) = (delL k l).map toE
  | [], i, j, v, h => by cases h
  | p :: r, i, j, v, h => by
    unfold posL at h
    unfold delL
    split at h
    · rename_i hk; cases h; simp [hk]
    · rename_i hk
      have h1 := (posL_ge k r (i + 1) j v h).1
      rw [if_neg hk, show j - i = (j - (i + 1)) + 1 by omega]
      simp only [List.map_cons, List.eraseIdx_cons_succ]
      rw [del_some k r (i + 1) j v h]
theorem del_none (k : ByteArray) : ∀ (l : Ents) (i : Nat), posL k l i = none → delL k l = l
  | [], i, h => rfl
  | p :: r, i, h => by
    unfold posL at h
    unfold delL
    split at h
    · cases h
    · rename_i hk; rw [if_neg hk, del_none k r (i + 1) h]

section
variable {C : Cx} {env : Env} {I : IM} {ah : AH} {Q : Post} {ops : Array Oper} {d ty : Nat} {ps : String} {af : Array Edge}
theorem PE_lookup1 {mt kt e m : Nat} {x y : Operand} {k : ByteArray} {l : Ents} {clk : Nat} {v : Value} (hm : C.P.underlying mt = some (.map kt e)) (hk : C.P.underlying kt = some .string)
    (hx : opv env x = some (.map (some m))) (hy : opv env y = some (.string k)) (ho : ah m = some (mobj l clk)) (hv : getL k l = some v) (cm : Bool) :
    PE C env I ah ⟨some d, .lookup mt x y cm, ty, ps, af, none⟩ (cond cm (.tuple #[v, .bool true]) v) := fun a w he hs => by
  have hg := hs.objOwn ho
  have hp : ∃ j, posL k l 0 = some (j, v) := by
    have := posL_get k l 0
    rw [hv] at this
    cases h : posL k l 0 with
    | none => rw [h] at this; cases this
    | some q => rw [h] at this; obtain ⟨j, u⟩ := q; cases this; exact ⟨j, rfl⟩
  obtain ⟨j, hp⟩ := hp
  simp only [execOp, he.eval hx, he.eval hy, Instr.lookup, Sem.run_bind, run_underlying hm, Result.andThen_ok, run_getObj _ hg, Sem.run_pure, run_checkKey hk, run_findKey hk, hp]
  cases cm <;> rfl
theorem PE_lookup0 {mt kt e m sz bytes : Nat} {x y : Operand} {k : ByteArray} {l : Ents} {clk : Nat} {z : Value} (hm : C.P.underlying mt = some (.map kt e)) (hk : C.P.underlying kt = some .string) (he0 : TE C.P e sz bytes z)
    (hx : opv env x = some (.map (some m))) (hy : opv env y = some (.string k)) (ho : ah m = some (mobj l clk)) (hv : getL k l = none) (cm : Bool) :
    PE C env I ah ⟨some d, .lookup mt x y cm, ty, ps, af, none⟩ (cond cm (.tuple #[z, .bool false]) z) := fun a w he hs => by
  have hg := hs.objOwn ho
  have hp : posL k l 0 = none := by
    have := posL_get k l 0
    rw [hv] at this
    simpa using this
  simp only [execOp, he.eval hx, he.eval hy, Instr.lookup, Sem.run_bind, run_underlying hm, Result.andThen_ok, run_getObj _ hg, Sem.run_pure, run_checkKey hk, run_findKey hk, hp, he0.zero]
  cases cm <;> rfl
theorem OE_mapUpdate {mt kt e m : Nat} {x y z : Operand} {k : ByteArray} {l : Ents} {clk : Nat} {u : Value} (hm : C.P.underlying mt = some (.map kt e)) (hk : C.P.underlying kt = some .string)
    (hx : opv env x = some (.map (some m))) (hy : opv env y = some (.string k)) (hz : opv env z = some u) (ho : ah m = some (mobj l clk)) :
    OE C env I ah ⟨none, .mapUpdate mt x y z, ty, ps, af, none⟩ (fun e' I' ah' => env = e' ∧ I = I' ∧ ah.set m (mobj (putL k u clk l) (putC k clk l)) = ah') :=
  OE_deed (fun a w he hs => by
    have hg := hs.objOwn ho
    refine ⟨_, I, _, ?_, hs.setObj ho (.map (ments (putL k u clk l)) (putC k clk l)) rfl, rfl, rfl, rfl⟩
    simp only [execOp, he.eval hx, he.eval hy, he.eval hz, Instr.mapUpdate, Sem.run_bind, run_underlying hm, Result.andThen_ok, run_getObj _ hg, run_checkKey hk, run_findKey hk]
    cases hp : posL k l 0 with
    | none =>
      have hn : getL k l = none := by have := posL_get k l 0; rw [hp] at this; exact this.symm
      simp only [run_setObj _ _ hg, Result.andThen_ok, Sem.run_pure, putC, hn]
      congr 3
      rw [put_none k u clk l 0 hp]
      simp [ments, toE]
    | some q =>
      obtain ⟨j, v⟩ := q
      obtain ⟨_, p, hp1, hp2, hp3⟩ := posL_ge k l 0 j v hp
      have hs' : (getL k l).isSome = true := by have := posL_get k l 0; rw [hp] at this; rw [← this]; rfl
      have hkey : (((ments l)[j]?).map (·.key)).getD (.string k) = .string k := by
        simp only [Nat.sub_zero] at hp1
        simp [ments, hp1, toE, hp2]
      have hsame : Instr.sameBits 10000 (.string k) (.string k) = true := by show (k == k) = true; rw [beq_ba]; simp
      simp only [hkey, Instr.keyThatStays, hsame, if_true, Sem.run_bind, Sem.run_pure, Result.andThen_ok, run_setObj _ _ hg, putC, hs']
      congr 3
      have := put_some k u clk l 0 j v hp
      rw [Nat.sub_zero] at this
      unfold ments; rw [← this]; simp [List.modify_toArray])
theorem OE_delete {mt kt e m t2 : Nat} {x y : Operand} {k : ByteArray} {l : Ents} {clk : Nat} (hm : C.P.underlying mt = some (.map kt e)) (hk : C.P.underlying kt = some .string)
    (hx : opv env x = some (.map (some m))) (hy : opv env y = some (.string k)) (ho : ah m = some (mobj l clk)) :
    OE C env I ah ⟨none, .call ⟨.builtin .delete, #[x, y], #[mt, t2]⟩, ty, ps, af, none⟩ (fun e' I' ah' => env = e' ∧ I = I' ∧ ah.set m (mobj (delL k l) clk) = ah') :=
  OE_ex0 (fun a w he hs => by
    have hg := hs.objOwn ho
    refine ⟨.tuple #[], _, I, _, ?_, hs.setObj ho (.map (ments (delL k l)) clk) rfl, rfl, rfl, rfl⟩
    have key : (Builtin.delete_ #[mt, t2] ty #[.map (some m), .string k]).run C.P w = .ok (.tuple #[]) { w with heap := w.heap.setIfInBounds m (.map (ments (delL k l)) clk) } := by
      have e0 : (#[mt, t2] : Array TypeId)[0]? = some mt := rfl
      have e1 : (#[Value.map (some m), Value.string k] : Array Value)[0]? = some (Value.map (some m)) := rfl
      have e2 : (#[Value.map (some m), Value.string k] : Array Value)[1]? = some (Value.string k) := rfl
      simp only [Builtin.delete_, e0, e1, e2, Sem.run_bind, run_underlying hm, Result.andThen_ok, run_getObj _ hg, run_checkKey hk, run_findKey hk]
      cases hp : posL k l 0 with
      | none =>
        simp only [Sem.run_bind, run_setObj _ _ hg, Result.andThen_ok, Sem.run_pure, del_none k l 0 hp]
      | some q =>
        obtain ⟨j, v⟩ := q
        have := del_some k l 0 j v hp
        rw [Nat.sub_zero] at this
        have hj : j < l.length := by obtain ⟨_, p, h, _⟩ := posL_ge k l 0 j v hp; have := (List.getElem?_eq_some_iff.1 h).1; omega
        have e3 : (ments l).eraseIdxIfInBounds j = ments (delL k l) := by unfold ments; rw [← this]; simp [Array.eraseIdxIfInBounds, hj]
        simp only [Sem.run_bind, e3, run_setObj _ _ hg, Result.andThen_ok, Sem.run_pure]
    simp [execOp, resolve, invoke, builtin, he.eval hx, he.eval hy, key])
theorem OE_makeMap {mt : Nat} (hd : Nat.blt d C.n = true) :
    OE C env I ah ⟨some d, .makeMap mt none, ty, ps, af, none⟩ (fun e' I' ah' => ∃ b, (d, .map (some b)) :: env = e' ∧ I = I' ∧ ah.set b (mobj [] 0) = ah' ∧ ah b = none ∧ C.w0.heap.size ≤ b) :=
  OE_ex hd (fun a w he hs => by
    refine ⟨.map (some w.heap.size), w.alloc (.map #[] 0), I, _, ?_, hs.alloc_obj (.map #[] 0) rfl, w.heap.size, rfl, rfl, rfl, hs.fresh, hs.base.size⟩
    simp [execOp, Instr.makeMap])

/-! ### Ranges over a map that stays -/
abbrev iobj (m clk : Nat) (seen : List Nat) : AObj := .obj (.mapIter (some m) clk seen.toArray clk)
theorem OE_range {mt kt e m clk : Nat} {x : Operand} {l : Ents} (hm : C.P.underlying mt = some (.map kt e)) (hd : Nat.blt d C.n = true) (hx : opv env x = some (.map (some m))) (ho : ah m = some (mobj l clk)) :
    OE C env I ah ⟨some d, .range mt x, ty, ps, af, none⟩ (fun e' I' ah' => ∃ b, (d, .pointer (some ⟨b, 0, none⟩)) :: env = e' ∧ I = I' ∧ ah.set b (iobj m clk []) = ah' ∧ ah b = none ∧ C.w0.heap.size ≤ b) :=
  OE_ex hd (fun a w he hs => by
    have hg := hs.objOwn ho
    refine ⟨.pointer (some ⟨w.heap.size, 0, none⟩), w.alloc (.mapIter (some m) clk #[] clk), I, _, ?_, hs.alloc_obj (.mapIter (some m) clk #[] clk) rfl, w.heap.size, rfl, rfl, rfl, hs.fresh, hs.base.size⟩
    simp only [execOp, he.eval hx, Instr.range, Sem.run_bind, run_underlying hm, Result.andThen_ok, run_getObj _ hg, Sem.run_pure]
    simp)
theorem run_next {P : Program} {w w0 : World} {r m clk : Nat} {seen : List Nat} {l : Ents} (hs : Sim w0 I ah w) (hr : ah r = some (iobj m clk seen)) (hm : ah m = some (mobj l clk)) (hb : ∀ p ∈ l, p.2.2 < clk) (T : TypeId) :
    ((∀ p ∈ l, p.2.2 ∈ seen) ∧ ∃ w', Sim w0 I ah w' ∧ (Instr.next (.pointer (some ⟨r, 0, none⟩)) false T).run P w = .ok (.tuple #[.bool false]) w') ∨
    (∃ p ∈ l, p.2.2 ∉ seen ∧ ∃ w', Sim w0 I (ah.set r (iobj m clk (seen ++ [p.2.2]))) w' ∧ (Instr.next (.pointer (some ⟨r, 0, none⟩)) false T).run P w = .ok (.tuple #[.bool true, .string p.1, p.2.1]) w') := by
  have hgr := hs.objOwn hr
  have hgm := hs.objOwn hm
  have hcond : (!seen.toArray.isEmpty && !(ments l).isEmpty && (ments l).all (fun x => decide (x.born ≥ clk))) = false := by
    cases l with
    | nil => simp [ments]
    | cons p l =>
      have := hb p (by simp)
      have : (ments (p :: l)).all (fun x => decide (x.born ≥ clk)) = false := by
        simp [ments, toE]; intro h; omega
      rw [this]; simp
  simp only [Instr.next, Sem.run_bind, run_getObj _ hgr, Result.andThen_ok, run_getObj _ hgm, hcond, Bool.false_eq_true, if_false]
  obtain ⟨L, hL⟩ : ∃ L, L = l.filter (fun p => !seen.contains p.2.2) := ⟨_, rfl⟩
  have e0 : (ments l).filter (fun e => !seen.toArray.contains e.born) = (L.map toE).toArray := by
    rw [hL]; unfold ments; rw [List.filter_toArray]
    congr 1
    rw [List.filter_map]
    congr 1
    apply List.filter_congr
    intro p _
    show (!seen.toArray.contains p.2.2) = _
    simp
  have hLl : ∀ p ∈ L, p ∈ l ∧ p.2.2 ∉ seen := fun p hp => by rw [hL] at hp; simpa using hp
  have e1 : ((L.map toE).toArray).filter (fun x => decide (x.born < clk)) = (L.map toE).toArray := Array.filter_eq_self.2 (fun x hx => by
    have : x ∈ L.map toE := by simpa using hx
    obtain ⟨p, hp, rfl⟩ := List.mem_map.1 this
    exact decide_eq_true (hb p (hLl p hp).1))
  have e2 : ((L.map toE).toArray).filter (fun x => decide (x.born ≥ clk)) = #[] := by
    rw [Array.filter_eq_empty_iff]
    intro x hx
    have : x ∈ L.map toE := by simpa using hx
    obtain ⟨p, hp, rfl⟩ := List.mem_map.1 this
    have := hb p (hLl p hp).1
    simp [toE]; omega
  simp only [e0, e1, e2, Array.append_empty]
  by_cases h0 : L = []
  · left
    refine ⟨fun p hp => ?_, w, hs, ?_⟩
    · by_cases h : p.2.2 ∈ seen
      · exact h
      · have : p ∈ L := by rw [hL]; simp [hp, h]
        rw [h0] at this; cases this
    · subst h0; simp [choose, Sem.run, Question.forced]
  · right
    have hlen : 0 < L.length := List.length_pos_iff.2 h0
    have hne : ((L.map toE).toArray).isEmpty = false := by simp [Array.isEmpty]; exact h0
    simp only [hne, Bool.false_eq_true, if_false, Array.empty_append, Array.size_map, List.size_toArray, List.length_map]
    have hch : ∃ (j : Nat) (w1 : World), j < L.length ∧ Sim w0 I ah w1 ∧ (choose (Question.mapNext L.length)).run P w = .ok j w1 := by
      by_cases hf : L.length ≤ 1
      · exact ⟨0, w, hlen, hs, by simp [choose, Sem.run, Question.forced, hf]⟩
      · exact ⟨_, w.drew, Nat.mod_lt _ hlen, hs.drew, by
          simp only [choose, Sem.run, Question.forced, decide_eq_true_eq, hf, if_false, Question.cut]
          rfl⟩
    obtain ⟨j, w1, hj, hs1, hrun⟩ := hch
    have hgr1 := hs1.objOwn hr
    refine ⟨L[j], (hLl _ (List.getElem_mem hj)).1, (hLl _ (List.getElem_mem hj)).2, _, hs1.setObj hr (.mapIter (some m) clk (seen ++ [L[j].2.2]).toArray clk) rfl, ?_⟩
    have hget : (Array.map some (L.map toE).toArray)[j]? = some (some (toE L[j])) := by simp [hj]
    simp only [hrun, Result.andThen_ok, hget, run_setObj _ _ hgr1, Sem.run_bind, Sem.run_pure, toE]
    simp
theorem find_stamp {p : ByteArray × Value × Nat} : ∀ {l : Ents}, (l.map (fun q => q.2.2)).Nodup → p ∈ l → (l.map toE).find? (fun x => x.born == p.2.2) = some (toE p)
  | q :: l, hn, hp => by
    have hn' := List.nodup_cons.1 hn
    rcases List.mem_cons.1 hp with rfl | h
    · simp [toE]
    · have hx : (q.2.2 == p.2.2) = false := by
        cases hc : q.2.2 == p.2.2 with
        | false => rfl
        | true => exact absurd (by show q.2.2 ∈ _; rw [beq_iff_eq.1 hc]; exact List.mem_map.2 ⟨p, h, rfl⟩) hn'.1
      rw [List.map_cons, List.find?_cons]
      simp only [toE] at hx ⊢
      rw [hx]
      exact find_stamp hn'.2 h
theorem PE_entry {r m clk : Nat} {x : Operand} {seen : List Nat} {l : Ents} {p : ByteArray × Value × Nat} (hx : opv env x = some (.pointer (some ⟨r, 0, none⟩))) (hr : ah r = some (iobj m clk (seen ++ [p.2.2]))) (hm : ah m = some (mobj l clk))
    (hp : p ∈ l) (hn : (l.map (fun q => q.2.2)).Nodup) : PE C env I ah ⟨some d, .entry x, ty, ps, af, none⟩ (.tuple #[.string p.1, p.2.1]) := fun a w he hs => by
  have hgr := hs.objOwn hr
  have hgm := hs.objOwn hm
  have hb : ((seen ++ [p.2.2]).toArray).back? = some p.2.2 := by simp
  have hf : (ments l).find? (fun x => x.born == p.2.2) = some (toE p) := by
    unfold ments; rw [← Array.find?_toList]; exact find_stamp hn hp
  simp only [execOp, he.eval hx, Instr.entry, Sem.run_bind, run_getObj _ hgr, Result.andThen_ok, hb, run_getObj _ hgm, bne_self_eq_false, Bool.false_eq_true, if_false, hf, Sem.run_pure, toE]
theorem OE_next {r m clk : Nat} {x : Operand} {seen : List Nat} {l : Ents} (hd : Nat.blt d C.n = true) (hx : opv env x = some (.pointer (some ⟨r, 0, none⟩))) (hr : ah r = some (iobj m clk seen)) (hm : ah m = some (mobj l clk)) (hb : ∀ p ∈ l, p.2.2 < clk) :
    OE C env I ah ⟨some d, .next x false, ty, ps, af, none⟩ (fun e' I' ah' => I = I' ∧ (((∀ p ∈ l, p.2.2 ∈ seen) ∧ (d, .tuple #[.bool false]) :: env = e' ∧ ah = ah') ∨
      ∃ p, p ∈ l ∧ p.2.2 ∉ seen ∧ (d, .tuple #[.bool true, .string p.1, p.2.1]) :: env = e' ∧ ah.set r (iobj m clk (seen ++ [p.2.2])) = ah')) :=
  OE_ex hd (fun a w he hs => by
    rcases run_next (P := C.P) hs hr hm hb ty with ⟨h, w', hs', hrun⟩ | ⟨p, hp, hps, w', hs', hrun⟩
    · exact ⟨_, w', I, ah, by simp [execOp, he.eval hx, hrun], hs', rfl, .inl ⟨h, rfl, rfl⟩⟩
    · exact ⟨_, w', I, _, by simp [execOp, he.eval hx, hrun], hs', rfl, .inr ⟨p, hp, hps, rfl, rfl⟩⟩)
/-- What a round of a range leaves. -/
def NextM (C : Cx) (St : List Nat → Env → IM → AH → Prop) (ti r : Nat) (seen : List Nat) : Act → World → Prop :=
  fun a w => ∃ e2 I2 a2, St seen e2 I2 a2 ∧ EnvOK C.n ((ti, .pointer (some ⟨r, 0, none⟩)) :: e2) a ∧ Sim C.w0 I2 a2 w
theorem QA_nextM {St : List Nat → Env → IM → AH → Prop} {ti r : Nat} {seen : List Nat} (e2 : Env) (h : St seen e2 I ah) (s : EnvSub env ((ti, .pointer (some ⟨r, 0, none⟩)) :: e2)) :
    QA C (Exit.then (NextM C St ti r seen) Q) .normal env I ah := fun a w he hs => ⟨e2, I, ah, h, he.sub s, hs⟩
theorem filter_less {α : Type} (p q : α → Bool) (hpq : ∀ x, q x = true → p x = true) (e : α) (hp : p e = true) (hq : q e = false) : ∀ (l : List α), e ∈ l → (l.filter q).length < (l.filter p).length
  | x :: l, he => by
    have hle : ∀ l : List α, (l.filter q).length ≤ (l.filter p).length := fun l => by
      induction l with
      | nil => simp
      | cons y l ih =>
        simp only [List.filter_cons]
        cases h1 : q y with
        | true => simp [hpq y h1]; exact ih
        | false => cases p y <;> simp <;> omega
    rcases List.mem_cons.1 he with rfl | h
    · have := hle l
      simp [hp, hq]; omega
    · have ih := filter_less p q hpq e hp hq l h
      simp only [List.filter_cons]
      cases h1 : q x with
      | true => simp [hpq x h1]; exact ih
      | false => cases p x <;> simp <;> omega
theorem CW_mapFor {b0 b1 r1 tc ti tn ty1 ty2 : Nat} {p1 p2 : String} {a1 a2 : Array Edge} {BODY : Code} (m r clk : Nat) (l : Ents) (hb : ∀ p ∈ l, p.2.2 < clk) (St : List Nat → Env → IM → AH → Prop) (e0 : Env)
    (h0 : St [] e0 I ah) (s0 : EnvSub env ((ti, .pointer (some ⟨r, 0, none⟩)) :: e0)) (hcl : ∀ k e I ah, St k e I ah → ClearC ti tc tn e)
    (hit : ∀ s e I ah, St s e I ah → ah r = some (iobj m clk s) ∧ ah m = some (mobj l clk))
    (hdc : Nat.blt tc C.n = true) (hdn : Nat.blt tn C.n = true) (hne : (Nat.beq tc ti || Nat.beq tn ti || Nat.beq tc tn) = false)
    (body : ∀ s e I ah p, St s e I ah → p ∈ l → p.2.2 ∉ s → CW C (.block b1 BODY) ((ti, .pointer (some ⟨r, 0, none⟩)) :: e) I (ah.set r (iobj m clk (s ++ [p.2.2]))) (Exit.then (NextM C St ti r (s ++ [p.2.2])) (Exit.inBlock b0 Q)))
    (done : ∀ s e I ah, St s e I ah → (∀ p ∈ l, p.2.2 ∈ s) → QA C Q .normal e I ah) :
    CW C (.block b0 (.loop (.seq (.region r1 #[⟨some tn, .next (.tmp ti) false, ty1, p1, a1, none⟩, ⟨some tc, .extract (.tmp tn) 0, ty2, p2, a2, none⟩] false)
      (.seq (.cond (.tmp tc) .skip (.exit b0)) (.block b1 BODY))))) env I ah Q := by
  simp only [Bool.or_eq_false_iff] at hne
  obtain ⟨⟨n1, n2⟩, n3⟩ := hne
  have m1 : tc ≠ ti := by rintro rfl; simp at n1
  have m2 : tn ≠ ti := by rintro rfl; simp at n2
  have m3 : tc ≠ tn := by rintro rfl; simp at n3
  refine CW_block (CW_loop (fun k e' I' a' => ∃ s e2, k = (l.filter (fun p => !s.contains p.2.2)).length ∧ e' = (ti, .pointer (some ⟨r, 0, none⟩)) :: e2 ∧ St s e2 I' a') _ ⟨[], e0, rfl, rfl, h0⟩ s0 ?_)
  rintro k e' I' a' ⟨s, e2, rfl, rfl, hst⟩
  obtain ⟨c1, c3, c4⟩ := hcl s e2 I' a' hst
  obtain ⟨hir, him⟩ := hit s e2 I' a' hst
  have k1 : opv ((ti, Value.pointer (some ⟨r, 0, none⟩)) :: e2) (.tmp ti) = some (.pointer (some ⟨r, 0, none⟩)) := look_cons_same _ _ _
  have sub : ∀ (u x : Value), ∀ t v, look ((ti, Value.pointer (some ⟨r, 0, none⟩)) :: e2) t = some v → look ((tc, x) :: (tn, u) :: (ti, Value.pointer (some ⟨r, 0, none⟩)) :: e2) t = some v := by
    intro u x t v e
    have h1 : tc ≠ t := by
      rintro rfl
      rw [look_cons_ne _ _ (Ne.symm m1), c3] at e; cases e
    have h2 : tn ≠ t := by
      rintro rfl
      rw [look_cons_ne _ _ (Ne.symm m2), c4] at e; cases e
    rw [look_cons_ne _ _ h1, look_cons_ne _ _ h2]; exact e
  refine CW_seq (CW_region (l := [_, _]) (WL_op rfl (OE_next hdn k1 hir him hb) ?_))
  rintro _ _ _ ⟨rfl, ⟨hall, rfl, rfl⟩ | ⟨p, hp, hps, rfl, rfl⟩⟩
  · refine WL_val hdc (PE_extract (look_cons_same _ _ _) rfl) (WL_nil (QA_seq (CW_seq (CW_false (look_cons_same _ _ _) (CW_exit ?_)))))
    refine QA_then_exit (QA_then_exit (QA_block_here ?_))
    have h := done s e2 I' a' hst hall
    exact fun a w he hs => h a w ⟨he.defers, he.size, fun t v e => he.get t v (sub _ _ t v (by
      by_cases h : ti = t
      · subst h; rw [c1] at e; cases e
      · rw [look_cons_ne _ _ h]; exact e))⟩ hs
  · refine WL_val hdc (PE_extract (look_cons_same _ _ _) rfl) (WL_nil (QA_seq (CW_seq (CW_true (look_cons_same _ _ _) (CW_skip (QA_seq ?_))))))
    refine CW_look (sub _ _) ?_
    have hbody := body s e2 I' a' p hst hp hps
    intro a w he hs
    refine wp_mono (hbody a w he hs) ?_
    intro e a w q
    cases e with
    | normal =>
      obtain ⟨e3, I3, a3', hst3, he3, hs3⟩ := q
      refine ⟨_, _, I3, a3', filter_less _ _ (fun x hx => ?_) p ?_ ?_ l hp, ⟨s ++ [p.2.2], e3, rfl, rfl, hst3⟩, he3, hs3⟩
      · simp at hx ⊢; exact hx.1
      · simpa using hps
      · simp
    | _ => exact q

/-- An array's or a structure's value whose parts are one cell each and are all given. -/
theorem fill_ones (us : List (Nat × Value)) (z : List Value) (hus : us.map Prod.fst = List.range z.length) (h1 : us.all (fun p => p.2.oneCell') = true) (place : Nat → Option (Nat × Nat)) (hpl : ∀ i, i < z.length → place i = some (i, 1)) :
    Instr.fill place z.toArray us = some (us.map Prod.snd).toArray := by
  have hlen : us.length = z.length := by have := congrArg List.length hus; simpa using this
  have hzip : us = ((us.map Prod.snd).zipIdx 0).map (fun p => (p.2, p.1)) := by
    apply List.ext_getElem
    · simp
    · intro j h1 h2
      have := congrArg (fun l => l[j]?) hus
      simp only [List.getElem?_map, List.getElem?_eq_getElem h1, Option.map_some] at this
      have hj : j < z.length := by omega
      simp [hj] at this
      ext
      · simp [this]
      · simp
  have ones : ∀ v ∈ us.map Prod.snd, v.cells = #[v] := by
    intro v hv
    obtain ⟨p, hp, rfl⟩ := List.mem_map.1 hv
    have := List.all_eq_true.1 h1 p hp
    revert this
    cases p.2 <;> first | (intro _; rfl) | (intro h; simp [Value.oneCell'] at h)
  have hf := fill_all 1 (us.map Prod.snd) 0 z (fun v hv => by rw [ones v hv]; rfl) (by simp [hlen])
  have hfl : (us.map Prod.snd).flatMap (fun v => v.cells.toList) = us.map Prod.snd := by
    generalize us.map Prod.snd = vs at ones
    induction vs with
    | nil => rfl
    | cons v vs ih => rw [List.flatMap_cons, ih (fun u hu => ones u (by simp [hu])), ones v (by simp)]; rfl
  rw [← hzip, hfl] at hf
  have hplace : ∀ (us : List (Nat × Value)) (z : Array Value), (∀ p ∈ us, place p.1 = some (p.1, 1)) → Instr.fill place z us = Instr.fill (fun i => some (i * 1, 1)) z us := by
    intro us
    induction us with
    | nil => intro z _; rfl
    | cons p r ih =>
      intro z hp
      obtain ⟨i, v⟩ := p
      simp only [Instr.fill, hp (i, v) (by simp), Nat.mul_one]
      split
      · rfl
      · have := ih (v.cells.zipIdx.foldl (fun cs x => match x with | (c, j) => cs.setIfInBounds (i + j) c) z) (fun p hp' => hp p (by simp [hp']))
        simp only [Nat.mul_one] at this
        exact this
  rw [hplace us _ (fun p hp => hpl p.1 (by
    have : p.1 ∈ us.map Prod.fst := List.mem_map.2 ⟨p, hp, rfl⟩
    rw [hus] at this; simpa using this)), hf]
  simp
theorem PE_buildAA {t e len bytes : Nat} {z0 : Value} {z : List Value} {l : List (Nat × Operand)} {us : List (Nat × Value)} {vs : List Value} (ht : C.P.underlying t = some (.array len e)) (he0 : TE C.P e 1 bytes z0) (hz : ∀ w, (zeroValue t).run C.P w = .ok (.agg z.toArray) w)
    (h1 : opps env l = some us) (hus : us.map Prod.fst = List.range z.length) (h2 : us.all (fun p => p.2.oneCell') = true) (hv : us.map Prod.snd = vs) :
    PE C env I ah ⟨some d, .build t l.toArray, ty, ps, af, none⟩ (.agg vs.toArray) := fun a w he _ => by
  subst hv
  have e := he.evalps h1
  have em : (l.toArray.map fun x => match x with | (i, x) => (i, a.eval x)) = us.toArray := by rw [← e]; simp
  have hf := fill_ones us z hus h2 (fun i => some (i * 1, 1)) (fun i _ => by simp)
  have key : (Instr.build t us.toArray).run C.P w = .ok (.agg (us.map Prod.snd).toArray) w := by
    simp only [Instr.build, Sem.run_bind, hz, Result.andThen_ok, run_underlying ht, he0.size, Value.cells]
    rw [hf]; rfl
  simp only [execOp, em, Sem.run_bind, key]; rfl

/-- x[l:] of an array that one has a pointer to. -/
theorem PE_arrFrom {t e : TypeId} {x lo : Operand} {b o len sz l : Nat} {K : IntKind} {z : Int} (ht : C.P.underlying t = some (.array len e)) (hz : ∀ w, (sizeOf e).run C.P w = .ok sz w)
    (hx : opv env x = some (.pointer (some ⟨b, o, none⟩))) (hl : opv env lo = some (.int K z)) (hzl : z = (l : Int)) (hln : l < len) :
    PE C env I ah ⟨some d, .slice t x (some lo) none none, ty, ps, af, none⟩ (.slice (some ⟨b, o + l * sz, none⟩) (len - l) (len - l)) := by
  subst hzl
  have h := PE_sliceArr (C := C) (env := env) (I := I) (ah := ah) (d := d) (ty := ty) (ps := ps) (af := af) (lo := some lo) (hi := none) (l := some l) (h := none) ht hz hx trivial ⟨_, hl, Nat.le_of_lt hln⟩
  simpa [Nat.ne_of_gt hln] using h
/-- copy, its count asked for. -/
theorem OE_copyd {t e sz n m : Nat} {ts : Array TypeId} {x y : Operand} {u : Value} {b o c : Nat} {vs us : List Value} (hts : ts[0]? = some t) (ht : C.P.underlying t = some (.slice e)) (hz : ∀ w, (sizeOf e).run C.P w = .ok sz w) (hd : Nat.blt d C.n = true)
    (hx : opv env x = some (.slice (some ⟨b, o, none⟩) n c)) (hy : opv env y = some u) (hb : ah b = some (.cells vs)) (hu : Src I ah u sz m us) (h1 : ∀ u ∈ us, u.oneCell' = true) (hfit : o + n * sz ≤ vs.length) :
    OE C env I ah ⟨some d, .call ⟨.builtin .copy, #[x, y], ts⟩, ty, ps, af, none⟩ (fun e' I' ah' => (d, .int .i64 ((min m n : Nat) : Int)) :: env = e' ∧ I = I' ∧ ah.set b (.cells (splice vs o (us.take (min m n * sz)))) = ah') :=
  OE_ex hd (fun a w hen hs => by
    obtain ⟨ub, uc, rfl, hmc⟩ := hu.form
    have hf := hu.first hs C.P (Nat.min_le_left m n)
    obtain ⟨T, hh⟩ := (hs.own b _ hb).2
    have hl : (us.take (min m n * sz)).length = min m n * sz := by
      rw [List.length_take, hu.len]; exact Nat.min_eq_left (Nat.mul_le_mul_right _ (Nat.min_le_left m n))
    have hle : min m n * sz ≤ n * sz := Nat.mul_le_mul_right _ (Nat.min_le_right m n)
    have hst := run_storeCells_at C.P b o T (us.take (min m n * sz)) 0 vs.toArray w hh (by simp only [List.size_toArray, hl]; omega) (fun v hv => h1 v (List.mem_of_mem_take hv))
    simp only [Nat.add_zero] at hst
    refine ⟨.int .i64 ((min m n : Nat) : Int), _, _, _, ?_, setRow_sim hs hb (us := splice vs o (us.take (min m n * sz))), rfl, rfl, rfl⟩
    have hts' : ts[0]? = some t := hts
    have e1 : Nat.min m n = min m n := rfl
    simp [execOp, resolve, invoke, builtin, Builtin.copy_, hen.eval hx, hen.eval hy, hts', run_underlying ht, hz, Builtin.lenOf, e1, hf, hst, goInt, splice])
end
end SL
end Go.Proofs.YthdpebagkfloaaaDoor
