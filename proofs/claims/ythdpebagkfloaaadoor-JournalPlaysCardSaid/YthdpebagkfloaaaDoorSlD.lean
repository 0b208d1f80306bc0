/- append, copy, make, conversions. -/
import Derived.Test.YthdpebagkfloaaaDoorSlC
namespace Go.Proofs.YthdpebagkfloaaaDoor
open Go Go.RowKit
set_option linter.unusedVariables false
namespace SL

/-- An element type: its cells, its zero value, its bytes. -/
structure TE (P : Program) (e sz bytes : Nat) (z : Value) : Prop where
  info : ∃ i, P.info? e = some i ∧ i.size = sz ∧ i.bytes = bytes ∧ i.zero = some z
  zsize : z.cells.size = sz
theorem TE.of {P : Program} {e sz bytes : Nat} {z : Value} (h : (P.info? e).map (fun i => (i.size, i.bytes, i.zero)) = some (sz, bytes, some z)) (hz : z.cells.size = sz) : TE P e sz bytes z := by
  refine ⟨?_, hz⟩
  cases hi : P.info? e with
  | none => rw [hi] at h; cases h
  | some i => rw [hi] at h; simp at h; exact ⟨i, rfl, h.1, h.2.1, h.2.2⟩
theorem TE.size {P : Program} {e sz bytes : Nat} {z : Value} (h : TE P e sz bytes z) (w : World) : (sizeOf e).run P w = .ok sz w := by
  obtain ⟨i, hi, h1, _, _⟩ := h.info
  simp [sizeOf, typeInfo, hi, h1]
theorem TE.tinfo {P : Program} {e sz bytes : Nat} {z : Value} (h : TE P e sz bytes z) : ∃ i, (∀ w, (typeInfo e).run P w = .ok i w) ∧ i.size = sz ∧ i.bytes = bytes ∧ i.zero = some z := by
  obtain ⟨i, hi, h1, h2, h3⟩ := h.info
  exact ⟨i, fun w => by simp [typeInfo, hi], h1, h2, h3⟩
theorem TE.zero {P : Program} {e sz bytes : Nat} {z : Value} (h : TE P e sz bytes z) (w : World) : (zeroValue e).run P w = .ok z w := by
  obtain ⟨i, hi, _, _, h3⟩ := h.tinfo
  simp [zeroValue, hi, h3]

/-- A row of which one owns the end: cells are written there, and stay. -/
theorem tail_write {w0 w : World} {I : IM} {ah : AH} (hs : Sim w0 I ah w) {b off fin : Nat} (hb : ah b = some (.tail off fin)) (us : List Value) (hf : off + us.length ≤ fin) (h1 : ∀ u ∈ us, u.oneCell' = true) (P : Program) :
    ∃ w', (storeCells ⟨b, off, none⟩ us).run P w = .ok () w' ∧ Sim w0 (I.add b off us) (ah.set b (.tail (off + us.length) fin)) w' := by
  obtain ⟨h0, cs, T, hh, hsz, hle⟩ := hs.own b _ hb
  have hfree : ∀ o, off ≤ o → I b o = none := hs.sep b _ hb
  have hst := run_storeCells_at P b off T us 0 cs w hh (by omega) h1
  simp only [Nat.add_zero] at hst
  refine ⟨_, hst, ?_⟩
  have hT := setRow_heap w b cs (cs.toList.take off ++ us ++ cs.toList.drop (off + us.length)).toArray T _ hh
  have hlen : (cs.toList.take off ++ us ++ cs.toList.drop (off + us.length)).length = fin := by
    simp; omega
  refine ⟨⟨hs.base.os, hs.base.tape, hs.base.output, by rw [setRow_size]; exact hs.base.size, fun k hk => ?_⟩, fun k p u e => ?_, fun k x e => ?_, fun k x e => ?_⟩
  · rw [setRow_other w b k _ (by omega)]; exact hs.base.block k hk
  · by_cases hk : k = b
    · subst hk
      rw [cell_of hT]
      unfold IM.add at e
      split at e
      · rename_i hc
        obtain ⟨_, h2, h3⟩ := hc
        simp only [List.getElem?_toArray]
        rw [List.getElem?_append_left (by simp; omega), List.getElem?_append_right (by simp; omega)]
        rw [show (p - (cs.toList.take off).length) = p - off by simp; omega]; exact e
      · rename_i hc
        have hp : p < off := by
          rcases Nat.lt_or_ge p off with h | h
          · exact h
          · rw [hfree p h] at e; cases e
        have := hs.imm k p u e
        rw [cell_of hh] at this
        simp only [List.getElem?_toArray]
        rw [List.append_assoc, List.getElem?_append_left (by simp; omega), List.getElem?_take]
        simpa [hp] using this
    · have e' : I k p = some u := by simpa [IM.add, hk] using e
      rw [World.cell?_of_block (w := w) (setRow_other w b k _ hk)]; exact hs.imm k p u e'
  · simp only [AH.set] at e
    split at e
    · cases e; rename_i hk; subst hk
      exact ⟨h0, _, T, hT, by simpa using hlen, hf⟩
    · rename_i hk; exact ⟨(hs.own k x e).1, AObj.at_congr (hs.own k x e).2 (setRow_other w b k _ hk)⟩
  · simp only [AH.set] at e
    split at e
    · cases e; rename_i hk; subst hk
      intro o ho
      unfold IM.add; rw [if_neg (by omega)]; exact hfree o (by omega)
    · rename_i hk
      have : (I.add b off us) k = I k := by funext o; simp [IM.add, hk]
      rw [this]; exact hs.sep k x e

theorem IM.le_add_tail {w0 w : World} {I : IM} {ah : AH} (hs : Sim w0 I ah w) {b off fin : Nat} (hb : ah b = some (.tail off fin)) (us : List Value) : IM.le I (I.add b off us) :=
  IM.le_add I b off us (hs.sep b _ hb)

/-- A new row, its first cells immutable, the room behind them owned. -/
theorem Sim.alloc_own {w0 w : World} {I : IM} {ah : AH} (hs : Sim w0 I ah w) (vs : List Value) (more : Array Value) (T : TypeId) :
    Sim w0 (I.add w.heap.size 0 vs) (ah.set w.heap.size (.tail vs.length (vs.length + more.size))) (w.alloc (.cells (vs.toArray ++ more) T)) := by
  have hnew := Sim.heap_new w (.cells (vs.toArray ++ more) T)
  have h1 := (hs.alloc (.cells (vs.toArray ++ more) T)).grow (b := w.heap.size) (s := 0) (vs := vs) (fun j hj => by
    rw [cell_of hnew]; simp [Array.getElem?_append, hj]) (fun x e => by rw [hs.fresh] at e; cases e)
  exact h1.gain hs.base.size ⟨_, T, hnew, by simp, by omega⟩ (fun o ho => by
    unfold IM.add; rw [if_neg (by omega)]; exact hs.freshI o)
theorem IM.le_add_new {w0 w : World} {I : IM} {ah : AH} (hs : Sim w0 I ah w) (vs : List Value) : IM.le I (I.add w.heap.size 0 vs) := IM.le_add _ _ _ _ fun o _ => hs.freshI o

/-- What append does with a slice of one's own. -/
theorem append_own {P : Program} {w0 w : World} {I : IM} {ah0 ah : AH} {v u : Value} {sz n m bytes : Nat} {vs us : List Value} {t u' e ty : Nat} {z : Value}
    (hs : Sim w0 I ah w) (ht : P.underlying t = some (.slice e)) (he : TE P e sz bytes z) (hu : ∃ de, P.underlying u' = some de ∧ (de = .string ∨ ∃ e', de = .slice e'))
    (hv : Own I ah0 ah v sz n vs) (hsrc : ∀ w, Sim w0 I ah w → (Builtin.firstCells sz m u).run P w = .ok us.toArray w) (hlu : ∀ w, (Builtin.lenOf u).run P w = .ok m w) (hul : us.length = m * sz) (h1 : ∀ u ∈ us, u.oneCell' = true)
    (hsz : 0 < sz) (hmax : (n + m) * bytes ≤ 140737488355328) (hmax' : n + m ≤ 140737488355328) :
    ∃ v' w' I' ah', (Builtin.append_ #[t, u'] ty #[v, u]).run P w = .ok v' w' ∧ IM.le I I' ∧ Sim w0 I' ah' w' ∧ Own I' ah0 ah' v' sz (n + m) (vs ++ us) ∧ (v' = .slice none 0 0 → v = .slice none 0 0 ∧ m = 0) := by
  obtain ⟨i, hi, rfl, rfl, hz⟩ := he.tinfo
  obtain ⟨de, hde, hne⟩ := hu
  have hvl := hv.sl.len
  have h63 : ¬ ((n + m : Nat) : Int) > IntKind.i64.max := by simp [IntKind.max, IntKind.signed, IntKind.bits]; omega
  have grow : ∀ (c : Nat), c < n + m → ∀ (b : Option Addr), (∀ w, Sim w0 I ah w → (Builtin.firstCells i.size n (.slice b n c)).run P w = .ok vs.toArray w) → v = .slice b n c →
      ∃ v' w' I' ah', (Builtin.append_ #[t, u'] ty #[v, u]).run P w = .ok v' w' ∧ IM.le I I' ∧ Sim w0 I' ah' w' ∧ Own I' ah0 ah' v' i.size (n + m) (vs ++ us) ∧ (v' = .slice none 0 0 → v = .slice none 0 0 ∧ m = 0) := by
    intro c hc b hfirst hvb
    subst hvb
    have hfit := growslice_fits hc hmax
    have hge := grownCap_ge w (n + m) c e
    have hrun : (Builtin.append_ #[t, u'] ty #[.slice b n c, u]).run P w = .ok (.slice (some ⟨w.heap.size, 0, none⟩) (n + m) (grownCap w (n + m) c e))
        (w.drew.alloc (.cells (vs.toArray ++ (us.toArray ++ Builtin.zeroCells z.cells (grownCap w (n + m) c e - (n + m)))) e)) := by
      have hn1 : ¬ (n + m ≤ c) := by omega
      have hn2 : ¬ (Builtin.nextslicecap (n + m) c * i.bytes > 2 ^ 48) := by
        have : (2 : Nat) ^ 48 = 281474976710656 := by decide
        omega
      have hz' : ∀ w, (zeroValue e).run P w = .ok z w := he.zero
      have hs' : ∀ w, (sizeOf e).run P w = .ok i.size w := he.size
      have h63' : ¬ (9223372036854775807 < (n : Int) + (m : Int)) := by omega
      have hn2' : ¬ (281474976710656 < Builtin.nextslicecap (n + m) c * i.bytes) := by omega
      have hd : w.drew = { w with drawn := w.drawn + 1 } := rfl
      rcases hne with rfl | ⟨e', rfl⟩ <;>
        simp [Builtin.append_, run_underlying ht, hs', run_underlying hde, hlu, hn1, hi, h63', hn2', Question.forced, newRow, grownCap, hfirst _ hs.drew, hsrc _ hs.drew, hz']
    refine ⟨_, _, I.add w.heap.size 0 (vs ++ us), ah0.set w.heap.size (.tail (vs ++ us).length ((vs ++ us).length + (Builtin.zeroCells z.cells (grownCap w (n + m) c e - (n + m))).size)), hrun, ?_, ?_, ?_⟩
    · exact IM.le_add_new hs _
    · have h0 : Sim w0 I ah0 w := hs.forget hv.base
      have := h0.drew.alloc_own (vs ++ us) (Builtin.zeroCells z.cells (grownCap w (n + m) c e - (n + m))) e
      have e1 : vs.toArray ++ (us.toArray ++ Builtin.zeroCells z.cells (grownCap w (n + m) c e - (n + m))) = (vs ++ us).toArray ++ Builtin.zeroCells z.cells (grownCap w (n + m) c e - (n + m)) := by
        apply Array.ext'; simp
      rw [e1]; exact this
    · refine ⟨.inr ⟨w.heap.size, 0, grownCap w (n + m) c e, (vs ++ us).length + (Builtin.zeroCells z.cells (grownCap w (n + m) c e - (n + m))).size, rfl, hge, by simp [hvl, hul, Nat.add_mul], ?_, ?_, ?_, fun j x hj => ?_⟩, fun h => by cases h⟩
      · simp [size_zeroCells, he.zsize, hvl, hul, ← Nat.add_mul]
        congr 1; omega
      · exact (hs.forget hv.base).fresh
      · simp [hvl, hul, ← Nat.add_mul]
      · have := IM.add_at I w.heap.size 0 (vs ++ us) j (List.getElem?_eq_some_iff.1 hj).1
        rw [this]; exact hj
  rcases hv with ⟨hsl, ⟨a, rfl⟩, rfl⟩ | ⟨b, o, c, fin, rfl, hnc, hvl', hfin, hb0, rfl, hI⟩
  · by_cases hm : m = 0
    · subst hm
      have hu0 : us = [] := List.eq_nil_of_length_eq_zero (by simpa using hul)
      subst hu0
      refine ⟨.slice a n n, w, I, ah, ?_, IM.le.refl _, hs, ?_, fun h => ⟨h, rfl⟩⟩
      · simp only [Builtin.append_]
        simp only [List.getElem?_toArray, List.getElem?_cons_zero, List.getElem?_cons_succ]
        have := hsrc w hs
        cases a <;> rcases hne with rfl | ⟨e', rfl⟩ <;> simp [run_underlying ht, he.size, run_underlying hde, hlu, this, storeCells]
      · rw [List.append_nil]; exact Own.full _ hsl
    · refine grow n (by omega) a (fun w hs => ?_) rfl
      have := (hsl.src ah).first hs P (Nat.le_refl n)
      rwa [List.take_of_length_le (by rw [hsl.len]; exact Nat.le_refl _)] at this
  · by_cases hroom : n + m ≤ c
    · have hb : (ah0.set b (.tail (o + n * i.size) fin)) b = some (.tail (o + n * i.size) fin) := by simp
      have hfit : o + n * i.size + us.length ≤ fin := by
        rw [hul, ← hfin, Nat.add_assoc, ← Nat.add_mul]
        exact Nat.add_le_add_left (Nat.mul_le_mul_right _ hroom) _
      obtain ⟨w', hst, hs'⟩ := tail_write hs hb us hfit h1 P
      refine ⟨.slice (some ⟨b, o, none⟩) (n + m) c, w', I.add b (o + n * i.size) us, _, ?_, IM.le_add_tail hs hb us, hs', .inr ⟨b, o, c, fin, rfl, hroom, by simp [hvl, hul, Nat.add_mul], hfin, hb0, ?_, fun j x hj => ?_⟩, fun h => by cases h⟩
      · simp only [Builtin.append_]
        simp only [List.getElem?_toArray, List.getElem?_cons_zero, List.getElem?_cons_succ]
        have hst' : (storeCells ((⟨b, o, none⟩ : Addr).add (n * i.size)) us).run P w = .ok () w' := by rw [add_none]; exact hst
        have := hsrc w hs
        rcases hne with rfl | ⟨e', rfl⟩ <;> simp [run_underlying ht, he.size, run_underlying hde, hlu, this, hroom, hst']
      · rw [AH.set_set, hul, Nat.add_assoc, ← Nat.add_mul]
      · rcases Nat.lt_or_ge j vs.length with hlt | hge
        · rw [List.getElem?_append_left hlt] at hj
          have := hI j x hj
          unfold IM.add
          rw [if_neg (by rw [← hvl]; omega)]; exact this
        · rw [List.getElem?_append_right hge] at hj
          have := IM.add_at I b (o + n * i.size) us (j - vs.length) (List.getElem?_eq_some_iff.1 hj).1
          rw [show o + n * i.size + (j - vs.length) = o + j by rw [← hvl]; omega] at this
          rw [this]; exact hj
    · refine grow c (by omega) (some ⟨b, o, none⟩) ?_ rfl
      exact fun w hs => run_firstCells_some w i.size n ⟨b, o, none⟩ n c vs hvl fun j x hj => by rw [add_none]; exact hs.imm _ _ _ (hI j x hj)

theorem cell?_freeze (w : World) (b o n : Nat) (a : Addr) : (w.freeze ⟨b, o, none⟩ n).cell? a = w.cell? a := by
  unfold World.freeze
  split
  · rfl
  · simp only [World.cell?, Array.getElem?_modify]
    by_cases hb : b = a.block
    · subst hb
      simp only [if_true]
      cases w.heap[a.block]? with
      | none => rfl
      | some x => cases x <;> rfl
    · simp [hb]
theorem Sim.frz {w0 w : World} {I : IM} {ah : AH} (h : Sim w0 I ah w) {b : Nat} (hb : ah b = none) (h0 : w0.heap.size ≤ b) (o n : Nat) : Sim w0 I ah (w.freeze ⟨b, o, none⟩ n) := by
  have hne : ∀ k, k ≠ b → (w.freeze ⟨b, o, none⟩ n).heap[k]? = w.heap[k]? := fun k hk => by
    unfold World.freeze
    split
    · rfl
    · simp [Array.getElem?_modify, Ne.symm hk]
  have hf : (w.freeze ⟨b, o, none⟩ n).heap.size = w.heap.size ∧ (w.freeze ⟨b, o, none⟩ n).os = w.os ∧ (w.freeze ⟨b, o, none⟩ n).tape = w.tape ∧ (w.freeze ⟨b, o, none⟩ n).output = w.output := by
    unfold World.freeze
    split <;> simp
  obtain ⟨e1, e2, e3, e4⟩ := hf
  refine ⟨⟨e2.trans h.base.os, e3.trans h.base.tape, e4.trans h.base.output, by rw [e1]; exact h.base.size, fun k hk => ?_⟩, fun k p u e => ?_, fun k x e => ?_, h.sep⟩
  · rw [hne k (by omega)]; exact h.base.block k hk
  · rw [cell?_freeze]; exact h.imm k p u e
  · have hk : k ≠ b := by rintro rfl; rw [hb] at e; cases e
    exact ⟨(h.own k x e).1, AObj.at_congr (h.own k x e).2 (hne k hk)⟩

section
variable {C : Cx} {ops : Array Oper} {rest : List Oper} {env : Env} {I : IM} {ah : AH} {Q : Post} {d ty : Nat} {ps : String} {af : Array Edge}

theorem lenOf_slice (P : Program) (a : Option Addr) (n c : Nat) (w : World) : (Builtin.lenOf (.slice a n c)).run P w = .ok n w := rfl
/-- append of a slice to a slice of one's own. -/
theorem OE_append {t t' e sz bytes n m : Nat} {x y : Operand} {v u : Value} {vs us : List Value} {z : Value} {ah0 : AH} (ht : C.P.underlying t = some (.slice e)) (ht' : ∃ e', C.P.underlying t' = some (.slice e')) (he : TE C.P e sz bytes z) (hd : Nat.blt d C.n = true)
    (hx : opv env x = some v) (hy : opv env y = some u) (hv : Own I ah0 ah v sz n vs) (hu : Src I ah u sz m us) (h1 : ∀ u ∈ us, u.oneCell' = true)
    (hsz : 0 < sz) (hmax : (n + m) * bytes ≤ 140737488355328) (hmax' : n + m ≤ 140737488355328) :
    OE C env I ah ⟨some d, .call ⟨.builtin .append, #[x, y], #[t, t']⟩, ty, ps, af, none⟩ (fun e' I' ah' => ∃ v', (d, v') :: env = e' ∧ IM.le I I' ∧ Own I' ah0 ah' v' sz (n + m) (vs ++ us) ∧ (v' = .slice none 0 0 → v = .slice none 0 0 ∧ m = 0)) :=
  OE_ex hd (fun a w hen hs => by
    obtain ⟨e', ht'⟩ := ht'
    obtain ⟨b, c, rfl, hmc⟩ := hu.form
    obtain ⟨v', w', I', ah', hr, hI, hs', ho, hn⟩ := append_own (ty := ty) hs ht he ⟨_, ht', .inr ⟨e', rfl⟩⟩ hv (fun w hs => by have := hu.first hs C.P (Nat.le_refl m); rwa [List.take_of_length_le (by rw [hu.len]; exact Nat.le_refl _)] at this) (fun w => lenOf_slice C.P b m c w) hu.len h1 hsz hmax hmax'
    exact ⟨v', w', I', ah', by simp [execOp, resolve, invoke, builtin, hen.eval hx, hen.eval hy, hr], hs', v', rfl, hI, ho, hn⟩)
def bv (b : UInt8) : Value := .int .u8 (b.toNat : Int)
theorem bv_one (b : UInt8) : (bv b).oneCell' = true := rfl
theorem bvs_one (l : List UInt8) : ∀ u ∈ l.map bv, u.oneCell' = true := by intro u hu; obtain ⟨b, _, rfl⟩ := List.mem_map.1 hu; rfl
/-- append of a string's bytes. -/
theorem OE_appendS {t t' e n bytes : Nat} {x y : Operand} {v : Value} {s : ByteArray} {vs : List Value} {z : Value} {ah0 : AH} (ht : C.P.underlying t = some (.slice e)) (ht' : C.P.underlying t' = some .string) (he : TE C.P e 1 bytes z) (hd : Nat.blt d C.n = true)
    (hx : opv env x = some v) (hy : opv env y = some (.string s)) (hv : Own I ah0 ah v 1 n vs)
    (hmax : (n + s.size) * bytes ≤ 140737488355328) (hmax' : n + s.size ≤ 140737488355328) :
    OE C env I ah ⟨some d, .call ⟨.builtin .append, #[x, y], #[t, t']⟩, ty, ps, af, none⟩ (fun e' I' ah' => ∃ v', (d, v') :: env = e' ∧ IM.le I I' ∧ Own I' ah0 ah' v' 1 (n + s.size) (vs ++ s.data.toList.map bv) ∧ (v' = .slice none 0 0 → v = .slice none 0 0 ∧ s.size = 0)) :=
  OE_ex hd (fun a w hen hs => by
    obtain ⟨v', w', I', ah', hr, hI, hs', ho, hn⟩ := append_own (ty := ty) (u := .string s) (m := s.size) (us := s.data.toList.map bv) hs ht he ⟨_, ht', .inl rfl⟩ hv (fun w hs => by
        have : s.extract 0 s.size = s := by simp
        simp only [Builtin.firstCells, this, Sem.run_pure]
        congr 1
        apply Array.ext'; simp [bv]) (fun w => rfl) (by simp) (bvs_one _) (by omega) hmax hmax'
    exact ⟨v', w', I', ah', by simp [execOp, resolve, invoke, builtin, hen.eval hx, hen.eval hy, hr], hs', v', rfl, hI, ho, hn⟩)

/-- copy into a row of one's own. -/
theorem OE_copy {t e sz n m : Nat} {ts : Array TypeId} {x y : Operand} {u : Value} {b o c : Nat} {vs us : List Value} (hts : ts[0]? = some t) (ht : C.P.underlying t = some (.slice e)) (hz : ∀ w, (sizeOf e).run C.P w = .ok sz w)
    (hx : opv env x = some (.slice (some ⟨b, o, none⟩) n c)) (hy : opv env y = some u) (hb : ah b = some (.cells vs)) (hu : Src I ah u sz m us) (h1 : ∀ u ∈ us, u.oneCell' = true) (hfit : o + n * sz ≤ vs.length) :
    OE C env I ah ⟨none, .call ⟨.builtin .copy, #[x, y], ts⟩, ty, ps, af, none⟩ (fun e' I' ah' => env = e' ∧ I = I' ∧ ah.set b (.cells (splice vs o (us.take (min m n * sz)))) = ah') :=
  OE_ex0 (fun a w hen hs => by
    obtain ⟨ub, uc, rfl, hmc⟩ := hu.form
    have hf := hu.first hs C.P (Nat.min_le_left m n)
    obtain ⟨T, hh⟩ := (hs.own b _ hb).2
    have hl : (us.take (min m n * sz)).length = min m n * sz := by
      rw [List.length_take, hu.len]; exact Nat.min_eq_left (Nat.mul_le_mul_right _ (Nat.min_le_left m n))
    have hle : min m n * sz ≤ n * sz := Nat.mul_le_mul_right _ (Nat.min_le_right m n)
    have hst := run_storeCells_at C.P b o T (us.take (min m n * sz)) 0 vs.toArray w hh (by simp only [List.size_toArray, hl]; omega) (fun v hv => h1 v (List.mem_of_mem_take hv))
    simp only [Nat.add_zero] at hst
    refine ⟨.int .i64 ((min m n : Nat) : Int), _, _, _, ?_, setRow_sim hs hb (us := splice vs o (us.take (min m n * sz))), rfl, rfl, rfl⟩
    have hts' : ts[0]? = some t := hts
    have e1 : Nat.min m n = min m n := rfl
    simp [execOp, resolve, invoke, builtin, Builtin.copy_, hen.eval hx, hen.eval hy, hts', run_underlying ht, hz, Builtin.lenOf, e1, hf, hst, goInt, splice])

/-- make([]T, n) of elements of one cell. -/
theorem OE_make {t e bytes n c : Nat} {x y : Operand} {z : Value} (ht : C.P.underlying t = some (.slice e)) (he : TE C.P e 1 bytes z) (hz1 : z.cells = #[z]) (hd : Nat.blt d C.n = true)
    (hx : opv env x = some (.int .i64 n)) (hy : opv env y = some (.int .i64 c)) (hnc : n ≤ c) (hmax : bytes * c ≤ 281474976710656) (hmax' : c ≤ 9223372036854775807) :
    OE C env I ah ⟨some d, .makeSlice t x y, ty, ps, af, none⟩ (fun e' I' ah' => ∃ b, (d, .slice (some ⟨b, 0, none⟩) n c) :: env = e' ∧ I = I' ∧ ah.set b (.cells (List.replicate c z)) = ah' ∧ ah b = none ∧ C.w0.heap.size ≤ b) :=
  OE_ex hd (fun a w hen hs => by
    obtain ⟨i, hi, hs1, hs2, hs3⟩ := he.tinfo
    subst hs2
    have w1 : IntKind.i64.wrap (n : Int) = n := by simp [IntKind.wrap, IntKind.bits, IntKind.signed]; omega
    have w2 : IntKind.i64.wrap (c : Int) = c := by simp [IntKind.wrap, IntKind.bits, IntKind.signed]; omega
    refine ⟨.slice (some ⟨w.heap.size, 0, none⟩) n c, w.alloc (.cells (List.replicate c z).toArray e), I, _, ?_, hs.alloc_cells _ e, w.heap.size, rfl, rfl, by simp, hs.fresh, hs.base.size⟩
    have hb1 : ¬ ((281474976710656 : Int) < (i.bytes : Int) * (c : Int)) := by
      have : ((i.bytes * c : Nat) : Int) ≤ 281474976710656 := by omega
      rw [Int.natCast_mul] at this; omega
    have hc0 : ¬ ((c : Int) < 0) := by omega
    have hn0 : ¬ ((n : Int) < 0) := by omega
    have hcn : ¬ ((c : Int) < (n : Int)) := by omega
    have key : (if c = 0 then (pure #[] : Sem (Array Value)) else do pure (← zeroValue e).cells).run C.P w = .ok (if c = 0 then #[] else #[z]) w := by
      split <;> simp [he.zero, hz1]
    have hrow : ((Array.range c).map fun x => (if c = 0 then #[] else #[z])[x % (if c = 0 then (#[] : Array Value) else #[z]).size]!) = (List.replicate c z).toArray := by
      by_cases h0 : c = 0
      · subst h0; simp
      · simp only [h0, if_false]
        apply Array.ext
        · simp
        · intro j h1 h2; simp [Nat.mod_one]
    simp only [execOp, hen.eval hx, hen.eval hy, Instr.makeSlice, Sem.run_bind, run_underlying ht, Result.andThen_ok, asInt, asIntOf, Sem.run_pure, hi, w1, w2]
    simp [hc0, hb1, hn0, hcn, he.size, he.zero, newRow]
    by_cases h0 : c = 0
    · subst h0; simp; congr 2
    · simp [h0, hz1]
      congr 2
      apply Array.ext
      · simp
      · intro j h1 h2; simp [Nat.mod_one])

theorem PE_convI {s t : TypeId} {x : Operand} {K K' : IntKind} {p r : Int} {ds : TypeDesc} (hs : C.P.underlying s = some ds) (ht : C.P.underlying t = some (.int K')) (hx : opv env x = some (.int K p)) (hr : K'.wrap p = r)
    : PE C env I ah ⟨some d, .convert s t x, ty, ps, af, none⟩ (.int K' r) := fun a w he _ => by simp [execOp, he.eval hx, convert, run_underlying hs, run_underlying ht, Conv.intToInt, hr]
theorem PE_convSS {s t : TypeId} {x : Operand} {p : ByteArray} {ds : TypeDesc} (hs : C.P.underlying s = some ds) (ht : C.P.underlying t = some .string) (hx : opv env x = some (.string p))
    : PE C env I ah ⟨some d, .convert s t x, ty, ps, af, none⟩ (.string p) := fun a w he _ => by simp [execOp, he.eval hx, convert, run_underlying hs, run_underlying ht]
/-- string(b). -/
theorem PE_convBS {s t e : TypeId} {x : Operand} {v : Value} {l : List UInt8} (hs : C.P.underlying s = some (.slice e)) (he1 : C.P.underlying e = some (.int .u8)) (ht : C.P.underlying t = some .string) (hx : opv env x = some v) (hv : Src I ah v 1 l.length (l.map bv))
    : PE C env I ah ⟨some d, .convert s t x, ty, ps, af, none⟩ (.string ⟨l.toArray⟩) := fun a w he hsim => by
    have e : (convert s t v).run C.P w = (Conv.bytesToString v).run C.P w := by
      obtain ⟨b, c, rfl, _⟩ := hv.form
      simp [convert, run_underlying hs, run_underlying ht, run_underlying he1]
    have e2 : (Conv.bytesToString v).run C.P w = .ok (.string ⟨l.toArray⟩) w := by
      rcases hv with ⟨⟨a, rfl⟩, h0, h1⟩ | ⟨b, o, c, rfl, h2, h3, h4⟩
      · have : l = [] := by simpa using h1
        subst this; cases a <;> rfl
      · have hl := run_loadCells_list (P := C.P) w ⟨b, o, none⟩ (l.map bv) (h4.get hsim)
        rw [List.length_map] at hl
        have key : ∀ (l : List UInt8) (s : ByteArray), (forIn (m := Sem) (l.map bv) s (fun c r => do
            let .int .u8 n := c | stuck "bytesToString: byte expected"
            pure (ForInStep.yield (r.push (UInt8.ofNat n.toNat))))).run C.P w = .ok (l.foldl (fun r b => r.push b) s) w := by
          intro l
          induction l with
          | nil => intro s; simp
          | cons b l ih => intro s; simp only [List.map_cons, List.forIn_cons, bv, Sem.run_bind, Sem.run_pure, Result.andThen_ok, List.foldl_cons]; simp [bv] at ih ⊢; first | done | exact ih _
        have fold : ∀ (l : List UInt8) (s : ByteArray), l.foldl (fun r b => r.push b) s = ⟨(s.data.toList ++ l).toArray⟩ := by
          intro l
          induction l with
          | nil => intro s; simp
          | cons b l ih => intro s; simp only [List.foldl_cons]; rw [ih]; simp [ByteArray.push]
        have k1 := key l ByteArray.empty
        rw [fold] at k1
        simp only [Conv.bytesToString, Sem.run_bind, hl, Result.andThen_ok]
        simp only [List.forIn_toArray]
        refine (congrArg (fun r : Result ByteArray => r.andThen fun a w' => Sem.run C.P (pure (Value.string a)) w') k1).trans ?_
        simp
    simp [execOp, he.eval hx, e, e2]
/-- []byte(s): cells that stay. -/
theorem OE_convSB {s t e : TypeId} {x : Operand} {p : ByteArray} {ds : TypeDesc} (hds : C.P.underlying s = some ds) (ht : C.P.underlying t = some (.slice e)) (he1 : C.P.underlying e = some (.int .u8)) (hd : Nat.blt d C.n = true) (hx : opv env x = some (.string p)) :
    OE C env I ah ⟨some d, .convert s t x, ty, ps, af, none⟩ (fun e' I' ah' => ∃ v, (d, v) :: env = e' ∧ IM.le I I' ∧ SlI I' v 1 p.size (p.data.toList.map bv) ∧ v ≠ .slice none 0 0 ∧ ah = ah') :=
  OE_ex hd (fun a w he hs => by
    obtain ⟨row, hrow⟩ : ∃ r : Array Value, r = p.data.map (fun b => Value.int .u8 (b.toNat : Int)) ++ Array.replicate (grownCap w p.size 0 e - p.size) (Value.int .u8 0) := ⟨_, rfl⟩
    have hs2 := hs.drew.alloc (.cells row e)
    have hnew : (w.drew.alloc (.cells row e)).heap[w.heap.size]? = some (.cells row e) := Sim.heap_new w.drew (.cells row e)
    have hge := grownCap_ge w p.size 0 e
    have hs3 := hs2.grow (b := w.heap.size) (s := 0) (vs := p.data.toList.map bv) (fun j hj => by
      have hj' : j < p.data.size := by simpa using hj
      have hj2 : j < p.size := hj'
      rw [Nat.zero_add, cell_of hnew, hrow]; simp [Array.getElem?_append, hj2, bv]) (fun x e => by rw [hs.fresh] at e; cases e)
    refine ⟨.slice (some ⟨w.heap.size, 0, none⟩) p.size (grownCap w p.size 0 e), _, I.add w.heap.size 0 (p.data.toList.map bv), ah, ?_, hs3.frz hs.fresh hs.base.size row.size 1, _, rfl, IM.le_add_new hs _, ?_, by simp, rfl⟩
    · have hsh : (w.drew.alloc (.cells row e)).shape? w.heap.size = some (e, row.size) := by
        unfold World.shape?
        rw [hnew]
      simp only [execOp, he.eval hx, convert, Sem.run_bind, run_underlying hds, run_underlying ht, run_underlying he1, Result.andThen_ok]
      simp only [Conv.stringToBytes, Sem.run_bind, run_choose, Question.forced, Bool.false_eq_true, if_false, Result.andThen_ok, newRow, run_newObj, Sem.run_pure, markStringish, run_shape]
      simp only [grownCap] at hrow hsh ⊢
      rw [← hrow]
      have hsh' : ({ heap := w.heap.push (.cells row e), tape := w.tape, drawn := w.drawn + 1, os := w.os, output := w.output } : World).shape? w.heap.size = some (e, row.size) := hsh
      rw [hsh']
      rfl
    · refine .inr ⟨w.heap.size, 0, _, rfl, hge, by simp, fun j u hj => ?_⟩
      have := IM.add_at I w.heap.size 0 (p.data.toList.map bv) j (List.getElem?_eq_some_iff.1 hj).1
      rw [this]; exact hj)
end
end SL
end Go.Proofs.YthdpebagkfloaaaDoor
