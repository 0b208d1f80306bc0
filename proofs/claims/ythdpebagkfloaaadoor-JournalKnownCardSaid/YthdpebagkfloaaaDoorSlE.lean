/- Counting loops; more equalities; bounds of integers. -/
import Derived.Test.YthdpebagkfloaaaDoorSlD
import Derived.IntWalk
namespace Go.Proofs.YthdpebagkfloaaaDoor
open Go Go.RowKit
set_option linter.unusedVariables false
namespace SL

theorem w64 {n : Int} (h0 : -9223372036854775808 ≤ n) (h1 : n < 9223372036854775808) : IntKind.i64.wrap n = n := IntWalk.i64_in n ⟨h0, by omega⟩
theorem wu64 {n : Int} (h0 : 0 ≤ n) (h1 : n < 18446744073709551616) : IntKind.u64.wrap n = n := IntWalk.u64_in n ⟨h0, by omega⟩
theorem wu32 {n : Int} (h0 : 0 ≤ n) (h1 : n < 4294967296) : IntKind.u32.wrap n = n := IntWalk.u32_in n ⟨h0, by omega⟩
theorem wu8 {n : Int} (h0 : 0 ≤ n) (h1 : n < 256) : IntKind.u8.wrap n = n := IntWalk.u8_in n ⟨h0, by omega⟩
theorem w64e {n r : Int} (h : n = r) (h0 : -9223372036854775808 ≤ r) (h1 : r < 9223372036854775808) : IntKind.i64.wrap n = r := by rw [h]; exact w64 h0 h1
theorem add_zero (a : Addr) : a.add 0 = a := by simp [Addr.add]
theorem equal_pn {P : Program} {t e : TypeId} (ht : P.underlying t = some (.pointer e)) (p : Option Addr) (w : World) : (Op.equal t (.pointer p) (.pointer none)).run P w = .ok p.isNone w := by
  have key : ∀ d, (Op.equalIn (d + 1) t (.pointer p) (.pointer none)).run P w = .ok p.isNone w := fun d => by
    cases p <;> simp [Op.equalIn, run_underlying ht]
  exact key 9999
theorem equal_sn {P : Program} {t e : TypeId} (ht : P.underlying t = some (.slice e)) (p : Option Addr) (n c : Nat) (w : World) : (Op.equal t (.slice p n c) (.slice none 0 0)).run P w = .ok p.isNone w := by
  have key : ∀ d, (Op.equalIn (d + 1) t (.slice p n c) (.slice none 0 0)).run P w = .ok p.isNone w := fun d => by
    cases p <;> simp [Op.equalIn, run_underlying ht]
  exact key 9999
theorem equal_bb {P : Program} {t : TypeId} (ht : P.underlying t = some .bool) (p q : Bool) (w : World) : (Op.equal t (.bool p) (.bool q)).run P w = .ok (p == q) w := by
  have key : ∀ d, (Op.equalIn (d + 1) t (.bool p) (.bool q)).run P w = .ok (p == q) w := fun d => by
    simp [Op.equalIn, run_underlying ht]
  exact key 9999

section
variable {C : Cx} {ops : Array Oper} {rest : List Oper} {env : Env} {I : IM} {ah : AH} {Q : Post} {d ty : Nat} {ps : String} {af : Array Edge}

/-- A pointer held against nil. -/
theorem PE_eqpn {tx ty' e : TypeId} {x y : Operand} {p : Option Addr} {b : Bool} (ht : C.P.underlying tx = some (.pointer e)) (hx : opv env x = some (.pointer p)) (hy : opv env y = some (.pointer none)) (hb : p.isNone = b) :
    PE C env I ah ⟨some d, .binOp .eql tx x y ty', ty, ps, af, none⟩ (.bool b) :=
  PE_bin hx hy (fun w => by simp [eqGuard_pointer, binOp, equal_pn ht, ← hb])
theorem PE_nepn {tx ty' e : TypeId} {x y : Operand} {p : Option Addr} {b : Bool} (ht : C.P.underlying tx = some (.pointer e)) (hx : opv env x = some (.pointer p)) (hy : opv env y = some (.pointer none)) (hb : p.isSome = b) :
    PE C env I ah ⟨some d, .binOp .neq tx x y ty', ty, ps, af, none⟩ (.bool b) :=
  PE_bin hx hy (fun w => by simp [eqGuard_pointer, binOp, equal_pn ht, ← hb])
/-- A slice held against nil. -/
theorem PE_eqsn {tx ty' e : TypeId} {x y : Operand} {p : Option Addr} {n c : Nat} {b : Bool} (ht : C.P.underlying tx = some (.slice e)) (hx : opv env x = some (.slice p n c)) (hy : opv env y = some (.slice none 0 0)) (hb : p.isNone = b) :
    PE C env I ah ⟨some d, .binOp .eql tx x y ty', ty, ps, af, none⟩ (.bool b) :=
  PE_bin hx hy (fun w => by simp [eqGuard_slice, binOp, equal_sn ht, ← hb])
theorem PE_nes {tx ty' : TypeId} {x y : Operand} {s t : ByteArray} {b : Bool} (hx : opv env x = some (.string s)) (hy : opv env y = some (.string t)) (hb : decide (s ≠ t) = b) :
    PE C env I ah ⟨some d, .binOp .neq tx x y ty', ty, ps, af, none⟩ (.bool b) :=
  PE_bin hx hy (fun w => by
    have e : (s.toList == t.toList) = decide (s = t) := by
      rw [Bool.eq_iff_iff, Lib.toList_data, Lib.toList_data]; simp only [beq_iff_eq, decide_eq_true_eq]
      exact ⟨fun h => by cases s; cases t; simp_all [Array.ext_iff], fun h => by rw [h]⟩
    simp [eqGuard_string, binOp, Op.stringOp, e, ← hb])
theorem PE_eqb {tx ty' : TypeId} {x y : Operand} {p q b : Bool} (ht : C.P.underlying tx = some .bool) (hx : opv env x = some (.bool p)) (hy : opv env y = some (.bool q)) (hb : (p == q) = b) :
    PE C env I ah ⟨some d, .binOp .eql tx x y ty', ty, ps, af, none⟩ (.bool b) :=
  PE_bin hx hy (fun w => by simp [eqGuard_bool, binOp, equal_bb ht, hb])
theorem PE_cat {tx ty' : TypeId} {x y : Operand} {s t : ByteArray} (hx : opv env x = some (.string s)) (hy : opv env y = some (.string t)) (hl : s.size + t.size ≤ 9223372036854775807) :
    PE C env I ah ⟨some d, .binOp .add tx x y ty', ty, ps, af, none⟩ (.string (s ++ t)) :=
  PE_bin hx hy (fun w => by
    have : ¬ ((s.size + t.size : Nat) : Int) > IntKind.i64.max := by simp [IntKind.max, IntKind.signed, IntKind.bits]; omega
    simp only [eqGuard_string, binOp, Op.stringOp, Sem.run_bind, Result.andThen_ok, this, if_false, Sem.run_pure])

/-- Cells set one behind the other. -/
theorem foldl_set (cs : List Value) : ∀ (off k : Nat) (l : List Value), off + k + cs.length ≤ l.length →
    (cs.zipIdx k).foldl (fun (cs : Array Value) (p : Value × Nat) => cs.setIfInBounds (off + p.2) p.1) l.toArray = (l.take (off + k) ++ cs ++ l.drop (off + k + cs.length)).toArray := by
  induction cs with
  | nil => intro off k l _; simp
  | cons c cs ih =>
    intro off k l hl
    simp only [List.zipIdx_cons, List.foldl_cons, List.length_cons] at hl ⊢
    rw [List.setIfInBounds_toArray, ih off (k + 1) (l.set (off + k) c) (by simp; omega)]
    congr 1
    have h1 : (l.set (off + k) c).take (off + (k + 1)) = l.take (off + k) ++ [c] := by
      rw [← Nat.add_assoc, List.take_succ_eq_append_getElem (by simp; omega)]
      simp [List.take_set_of_le]
    have h2 : (l.set (off + k) c).drop (off + (k + 1) + cs.length) = l.drop (off + k + (cs.length + 1)) := by
      rw [List.drop_set_of_lt (by omega)]; congr 1; omega
    rw [h1, h2]; simp
theorem fill_all (sz : Nat) : ∀ (vs : List Value) (k : Nat) (l : List Value), (∀ v ∈ vs, v.cells.size = sz) → k * sz + vs.length * sz = l.length →
    Instr.fill (fun i => some (i * sz, sz)) l.toArray ((vs.zipIdx k).map fun p => (p.2, p.1)) = some (l.take (k * sz) ++ vs.flatMap (fun v => v.cells.toList)).toArray := by
  intro vs
  induction vs with
  | nil => intro k l _ hl; simp [Instr.fill]; rw [List.take_of_length_le (by simp at hl; omega)]
  | cons v vs ih =>
    intro k l hv hl
    have hvs := hv v (by simp)
    simp only [List.zipIdx_cons, List.map_cons, Instr.fill]
    have h1 : ¬ (v.cells.size ≠ sz) := by simp [hvs]
    have h2 : ¬ (k * sz + v.cells.size > l.toArray.size) := by
      simp only [List.size_toArray, hvs, ← hl, List.length_cons, Nat.add_mul]; omega
    have hc : (decide (v.cells.size ≠ sz) || decide (k * sz + v.cells.size > l.toArray.size)) = false := by
      rw [Bool.or_eq_false_iff]; exact ⟨decide_eq_false h1, decide_eq_false h2⟩
    rw [if_neg (by rw [hc]; simp)]
    have hf := foldl_set v.cells.toList (k * sz) 0 l (by simp only [Array.length_toList, hvs, ← hl, List.length_cons, Nat.add_mul]; omega)
    have e1 : v.cells.zipIdx.foldl (fun cs x => match x with | (c, j) => cs.setIfInBounds (k * sz + j) c) l.toArray = (v.cells.toList.zipIdx 0).foldl (fun (cs : Array Value) (p : Value × Nat) => cs.setIfInBounds (k * sz + p.2) p.1) l.toArray := by
      rw [← Array.foldl_toList]; simp
    rw [e1, hf]
    simp only [Nat.add_zero, Array.length_toList, hvs]
    rw [ih (k + 1) _ (fun u hu => hv u (by simp [hu])) (by simp [hvs, Nat.add_mul]; simp [Nat.add_mul] at hl; omega)]
    congr 2
    have hk : k * sz ≤ l.length := by simp [Nat.add_mul] at hl; omega
    have : (List.take (k * sz) l ++ v.cells.toList ++ List.drop (k * sz + sz) l).take ((k + 1) * sz) = List.take (k * sz) l ++ v.cells.toList := by
      rw [List.take_append_of_le_length (by simp [hvs, Nat.add_mul, hk])]
      exact List.take_of_length_le (by simp [hvs, Nat.add_mul, hk])
    rw [this]; simp
theorem OE_lit {t e sz bytes n : Nat} {z : Value} {l : List (Nat × Operand)} {us : List (Nat × Value)} (ht : C.P.underlying t = some (.slice e)) (he : TE C.P e sz bytes z) (hd : Nat.blt d C.n = true) (h1 : opps env l = some us)
    (hus : us.map Prod.fst = List.range n) (hsz : ∀ p ∈ us, p.2.cells.size = sz) (hbig : n * sz ≤ 16777216) {vs : List Value} (hvs : (us.flatMap fun p => p.2.cells.toList) = vs) :
    OE C env I ah ⟨some d, .buildSlice t n l.toArray, ty, ps, af, none⟩ (fun e' I' ah' => ∃ b, (d, .slice (some ⟨b, 0, none⟩) n n) :: env = e' ∧ I = I' ∧ ah.set b (.cells vs) = ah' ∧ ah b = none ∧ C.w0.heap.size ≤ b) :=
  OE_ex hd (fun a w hen hs => by
    subst hvs
    have e0 := hen.evalps h1
    have emap : (l.toArray.map fun x => match x with | (i, x) => (i, a.eval x)) = us.toArray := by rw [← e0]; simp
    have hlen : us.length = n := by have := congrArg List.length hus; simpa using this
    have hzip : us = ((us.map Prod.snd).zipIdx 0).map (fun p => (p.2, p.1)) := by
      apply List.ext_getElem
      · simp
      · intro j h1 h2
        have := congrArg (fun l => l[j]?) hus
        simp only [List.getElem?_map, List.getElem?_eq_getElem h1, Option.map_some] at this
        have hj : j < n := by omega
        simp [hj] at this
        ext
        · simp [this]
        · simp
    have hfill : Instr.fill (fun i => some (i * sz, sz)) ((Array.range (n * sz)).map (z.cells[· % z.cells.size]!)) us = some (us.flatMap fun p => p.2.cells.toList).toArray := by
      have hf := fill_all sz (us.map Prod.snd) 0 ((Array.range (n * sz)).map (z.cells[· % z.cells.size]!)).toList (by intro v hv; obtain ⟨p, hp, rfl⟩ := List.mem_map.1 hv; exact hsz p hp) (by simp [hlen])
      rw [← hzip] at hf
      have e2 : ((Array.range (n * sz)).map (z.cells[· % z.cells.size]!)).toList.toArray = (Array.range (n * sz)).map (z.cells[· % z.cells.size]!) := Array.toArray_toList
      rw [e2] at hf
      rw [hf]
      simp [List.flatMap_map]
    have hbig' : ¬ (n * sz > 2 ^ 24) := by omega
    refine ⟨.slice (some ⟨w.heap.size, 0, none⟩) n n, w.alloc (.cells (us.flatMap fun p => p.2.cells.toList).toArray e), I, _, ?_, hs.alloc_cells _ e, w.heap.size, rfl, rfl, by simp, hs.fresh, hs.base.size⟩
    have hbz : ∀ b : Nat, ¬ (16777216 < n * sz) := fun _ => by omega
    have key : (Instr.buildSlice t n us.toArray).run C.P w = .ok (.slice (some ⟨w.heap.size, 0, none⟩) n n) (w.alloc (.cells (us.flatMap fun p => p.2.cells.toList).toArray e)) := by
      by_cases h0 : n * sz = 0
      · have hr : ∀ f : Nat → Value, (Array.range (n * sz)).map f = #[] := fun f => by rw [h0]; apply Array.ext'; simp
        rw [hr] at hfill
        have hr0 : ∀ f : Nat → Value, (Array.range 0).map f = #[] := fun f => by apply Array.ext'; simp
        simp [Instr.buildSlice, run_underlying ht, he.size, h0, newRow, hr0, hfill]
      · simp [Instr.buildSlice, run_underlying ht, he.size, he.zero, h0, hbz 0, newRow]
        simp [hfill]
    simp only [execOp, emap, Sem.run_bind, key]; rfl)
/-- x[:h]. -/
theorem PE_sliceTo {t e : TypeId} {x hi : Operand} {a : Option Addr} {n c sz h : Nat} {K : IntKind} {z : Int} (ht : C.P.underlying t = some (.slice e)) (hz : ∀ w, (sizeOf e).run C.P w = .ok sz w)
    (hx : opv env x = some (.slice a n c)) (hh : opv env hi = some (.int K z)) (hzh : z = (h : Int)) (hc : h ≤ c) :
    PE C env I ah ⟨some d, .slice t x none (some hi) none, ty, ps, af, none⟩ (.slice a h c) := fun ac w he _ => by
  subst hzh
  have key : (Instr.sliceBounds true n c (none) (some (ac.eval hi)) none).run C.P w = .ok (0, h, c) w := by
    simp [Instr.sliceBounds, he.eval hh, Instr.sliceBound, asIntOf, hc]
  have hm : a.map (fun a => a.add 0) = a := by cases a <;> simp [add_zero]
  simp [execOp, he.eval hx, Instr.sliceAt, Instr.slice, run_underlying ht, hz, key, hm]
/-- x[l:]. -/
theorem PE_sliceFrom {t e : TypeId} {x lo : Operand} {a : Option Addr} {n c sz l : Nat} {K : IntKind} {z : Int} (ht : C.P.underlying t = some (.slice e)) (hz : ∀ w, (sizeOf e).run C.P w = .ok sz w)
    (hx : opv env x = some (.slice a n c)) (hl : opv env lo = some (.int K z)) (hzl : z = (l : Int)) (hln : l ≤ n) :
    PE C env I ah ⟨some d, .slice t x (some lo) none none, ty, ps, af, none⟩ (.slice (if c = l then a else a.map (·.add (l * sz))) (n - l) (c - l)) := fun ac w he _ => by
  subst hzl
  have key : (Instr.sliceBounds true n c (some (ac.eval lo)) none none).run C.P w = .ok (l, n, c) w := by
    simp [Instr.sliceBounds, he.eval hl, Instr.sliceBound, asIntOf, hln]
  simp [execOp, he.eval hx, Instr.sliceAt, Instr.slice, run_underlying ht, hz, key]
/-- An array variable as a slice. -/
theorem PE_sliceArr {t e : TypeId} {x : Operand} {b o len sz : Nat} {lo hi : Option Operand} {l h : Option Nat} (ht : C.P.underlying t = some (.array len e)) (hz : ∀ w, (sizeOf e).run C.P w = .ok sz w)
    (hx : opv env x = some (.pointer (some ⟨b, o, none⟩))) (hh : bnd env hi len h) (hl : bnd env lo (h.getD len) l) :
    PE C env I ah ⟨some d, .slice t x lo hi none, ty, ps, af, none⟩ (.slice (some (if len = l.getD 0 then ⟨b, o, none⟩ else ⟨b, o + l.getD 0 * sz, none⟩)) (h.getD len - l.getD 0) (len - l.getD 0)) := fun ac w he _ => by
  have key : (Instr.sliceBounds false len len (lo.map ac.eval) (hi.map ac.eval) none).run C.P w = .ok (l.getD 0, h.getD len, len) w := by
    cases hi with
    | none =>
      cases h with
      | some _ => exact hh.elim
      | none =>
        cases lo with
        | none => cases l with
          | some _ => exact hl.elim
          | none => simp [Instr.sliceBounds]
        | some y => cases l with
          | none => exact hl.elim
          | some l =>
            obtain ⟨K, h1, h2⟩ := hl
            simp only [Option.getD_none] at h2
            simp [Instr.sliceBounds, he.eval h1, Instr.sliceBound, asIntOf, h2]
    | some y =>
      cases h with
      | none => exact hh.elim
      | some h =>
        obtain ⟨K, h1, h2⟩ := hh
        cases lo with
        | none => cases l with
          | some _ => exact hl.elim
          | none => simp [Instr.sliceBounds, he.eval h1, Instr.sliceBound, asIntOf, h2]
        | some y => cases l with
          | none => exact hl.elim
          | some l =>
            obtain ⟨K', h4, h5⟩ := hl
            simp only [Option.getD_some] at h5
            simp [Instr.sliceBounds, he.eval h1, he.eval h4, Instr.sliceBound, asIntOf, h2, h5]
  simp [execOp, he.eval hx, Instr.sliceAt, Instr.sureAddr, run_underlying ht, hz, key, add_none]
theorem PE_index1 {t e : TypeId} {x y : Operand} {b o n c i : Nat} {K : IntKind} {z : Int} (ht : C.P.underlying t = some (.slice e)) (hz : ∀ w, (sizeOf e).run C.P w = .ok 1 w)
    (hx : opv env x = some (.slice (some ⟨b, o, none⟩) n c)) (hy : opv env y = some (.int K z)) (hi : z = (i : Int)) (hn : i < n) :
    PE C env I ah ⟨some d, .indexAddr t x y, ty, ps, af, none⟩ (.pointer (some ⟨b, o + i, none⟩)) := by
  have := PE_indexAddr (C := C) (env := env) (I := I) (ah := ah) (d := d) (ty := ty) (ps := ps) (af := af) ht hz hx hy hi hn
  rwa [Nat.mul_one] at this
theorem SlI.at {I : IM} {v : Value} {sz n : Nat} {vs : List Value} (h : SlI I v sz n vs) {i : Nat} (hi : i < n) : ∃ b o c, v = .slice (some ⟨b, o, none⟩) n c ∧ n ≤ c ∧ ∀ j u, vs[j]? = some u → I b (o + j) = some u := by
  rcases h with ⟨_, rfl, _⟩ | ⟨b, o, c, h1, h2, _, h4⟩
  · omega
  · exact ⟨b, o, c, h1, h2, h4⟩
/-- Parts put into cells. -/
def fillL (place : Nat → Option (Nat × Nat)) : List Value → List (Nat × Value) → Option (List Value)
  | cs, [] => some cs
  | cs, (i, v) :: r =>
    match place i with
    | none => none
    | some (off, n) =>
      match Nat.beq v.cells.toList.length n && Nat.ble (off + n) cs.length with
      | true => fillL place (cs.take off ++ v.cells.toList ++ cs.drop (off + n)) r
      | false => none
theorem fill_fillL (place : Nat → Option (Nat × Nat)) : ∀ (us : List (Nat × Value)) (cs r : List Value), fillL place cs us = some r → Instr.fill place cs.toArray us = some r.toArray := by
  intro us
  induction us with
  | nil => intro cs r h; cases h; rfl
  | cons p us ih =>
    obtain ⟨i, v⟩ := p
    intro cs r h
    unfold fillL at h
    unfold Instr.fill
    cases hp : place i with
    | none => rw [hp] at h; cases h
    | some q =>
      obtain ⟨off, n⟩ := q
      rw [hp] at h
      simp only at h ⊢
      cases hc : (Nat.beq v.cells.toList.length n && Nat.ble (off + n) cs.length) with
      | false => rw [hc] at h; cases h
      | true =>
        rw [hc] at h
        simp only at h
        rw [Bool.and_eq_true] at hc
        have h1 : v.cells.size = n := by have := Nat.eq_of_beq_eq_true hc.1; simpa using this
        have h2 : off + n ≤ cs.length := Nat.le_of_ble_eq_true hc.2
        have hcc : (decide (v.cells.size ≠ n) || decide (off + v.cells.size > cs.toArray.size)) = false := by
          rw [Bool.or_eq_false_iff]; exact ⟨decide_eq_false (by simp [h1]), decide_eq_false (by simp [h1]; omega)⟩
        rw [if_neg (by rw [hcc]; simp)]
        have hf := foldl_set v.cells.toList off 0 cs (by simp [h1]; omega)
        have e1 : v.cells.zipIdx.foldl (fun cs x => match x with | (c, j) => cs.setIfInBounds (off + j) c) cs.toArray = (v.cells.toList.zipIdx 0).foldl (fun (cs : Array Value) (p : Value × Nat) => cs.setIfInBounds (off + p.2) p.1) cs.toArray := by
          rw [← Array.foldl_toList]; simp
        rw [e1, hf]
        simp only [Nat.add_zero, Array.length_toList, h1]
        exact ih _ _ h
/-- A struct type: where its fields begin, and their cells. -/
structure TS (P : Program) (t : Nat) (offs : List (Nat × Nat)) (z : List Value) : Prop where
  und : (P.underlying t).map (fun d => match d with | .struct fs => some (fs.toList.map fun f => (f.offset, (P.info? f.type).map (·.size))) | _ => none) = some (some (offs.map fun p => (p.1, some p.2)))
  zero : ∀ w, (zeroValue t).run P w = .ok (.agg z.toArray) w
theorem TS.get {P : Program} {t : Nat} {offs : List (Nat × Nat)} {z : List Value} (h : TS P t offs z) : ∃ fs : Array Field, P.underlying t = some (.struct fs) ∧ ∀ w, (fs.mapM fun f => do pure (f.offset, ← sizeOf f.type) : Sem (Array (Nat × Nat))).run P w = .ok offs.toArray w := by
  have hu := h.und
  cases hd : P.underlying t with
  | none => rw [hd] at hu; cases hu
  | some d =>
    rw [hd] at hu
    cases d with
    | struct fs =>
      simp only [Option.map_some, Option.some.injEq] at hu
      refine ⟨fs, rfl, fun w => ?_⟩
      obtain ⟨l⟩ := fs
      simp only at hu
      have key : ∀ (l : List Field) (offs : List (Nat × Nat)), (l.map fun f => (f.offset, (P.info? f.type).map (·.size))) = (offs.map fun p => (p.1, some p.2)) → (l.mapM fun f => do pure (f.offset, ← sizeOf f.type) : Sem (List (Nat × Nat))).run P w = .ok offs w := by
        intro l
        induction l with
        | nil => intro offs h; have : offs = [] := by simpa using h.symm
                 subst this; simp
        | cons f l ih =>
          intro offs h
          cases offs with
          | nil => simp at h
          | cons p offs =>
            simp only [List.map_cons, List.cons.injEq, Prod.mk.injEq] at h
            obtain ⟨⟨h1, h2⟩, h3⟩ := h
            cases hi : P.info? f.type with
            | none => rw [hi] at h2; cases h2
            | some i =>
              rw [hi] at h2
              simp only [Option.map_some, Option.some.injEq] at h2
              rw [List.mapM_cons]
              simp only [Sem.run_bind, sizeOf, typeInfo, run_program, hi, Sem.run_pure, Result.andThen_ok, h1, h2]
              have := ih offs h3
              simp only [sizeOf, typeInfo] at this
              rw [this]
              rfl
      have := key l offs hu
      simp only [List.mapM_toArray, Sem.run_map, this, Result.andThen_ok]
    | _ => simp at hu
theorem PE_buildS {t : TypeId} {offs : List (Nat × Nat)} {z : List Value} {l : List (Nat × Operand)} {us : List (Nat × Value)} {vs : List Value} (ht : TS C.P t offs z) (h1 : opps env l = some us) (hv : fillL (fun (i : Nat) => offs[i]?) z us = some vs) :
    PE C env I ah ⟨some d, .build t l.toArray, ty, ps, af, none⟩ (.agg vs.toArray) := fun a w he _ => by
  have e := he.evalps h1
  have em : (l.toArray.map fun x => match x with | (i, x) => (i, a.eval x)) = us.toArray := by rw [← e]; simp
  obtain ⟨fs, hfs, hm⟩ := ht.get
  have hf := fill_fillL _ us z vs hv
  have hplace : (fun (i : Nat) => (offs.toArray)[i]?) = fun (i : Nat) => offs[i]? := by funext i; simp
  have key : (Instr.build t us.toArray).run C.P w = .ok (.agg vs.toArray) w := by
    simp only [Instr.build, Sem.run_bind, ht.zero, Result.andThen_ok, run_underlying hfs, hm, Value.cells]
    rw [hplace, hf]; rfl
  simp only [execOp, em, Sem.run_bind, key]; rfl
theorem PE_buildA {t e len sz bytes : Nat} {z0 : Value} {z : List Value} {l : List (Nat × Operand)} {us : List (Nat × Value)} {vs : List Value} (ht : C.P.underlying t = some (.array len e)) (he0 : TE C.P e sz bytes z0) (hz : ∀ w, (zeroValue t).run C.P w = .ok (.agg z.toArray) w)
    (h1 : opps env l = some us) (hv : fillL (fun i => some (i * sz, sz)) z us = some vs) :
    PE C env I ah ⟨some d, .build t l.toArray, ty, ps, af, none⟩ (.agg vs.toArray) := fun a w he _ => by
  have e := he.evalps h1
  have em : (l.toArray.map fun x => match x with | (i, x) => (i, a.eval x)) = us.toArray := by rw [← e]; simp
  have hf := fill_fillL _ us z vs hv
  have key : (Instr.build t us.toArray).run C.P w = .ok (.agg vs.toArray) w := by
    simp only [Instr.build, Sem.run_bind, hz, Result.andThen_ok, run_underlying ht, he0.size, Value.cells]
    rw [hf]; rfl
  simp only [execOp, em, Sem.run_bind, key]; rfl
theorem SlI.piece {I : IM} {a : Option Addr} {n c sz : Nat} {vs : List Value} (hs : SlI I (.slice a n c) sz n vs) {l h : Nat} (h1 : h ≤ n) (h2 : l ≤ h) :
    SlI I (.slice (if c = l then a else a.map (·.add (l * sz))) (h - l) (c - l)) sz (h - l) ((vs.drop (l * sz)).take ((h - l) * sz)) := by
  rcases hs with ⟨⟨_, e⟩, rfl, rfl⟩ | ⟨b, o, c', e, h3, h4, h5⟩
  · cases e
    obtain rfl : h = 0 := by omega
    obtain rfl : l = 0 := by omega
    exact .inl ⟨⟨_, by simp; rfl⟩, by simp, by simp⟩
  · cases e
    have hlen' : ((vs.drop (l * sz)).take ((h - l) * sz)).length = (h - l) * sz := by
      rw [List.length_take, List.length_drop, h4, ← Nat.sub_mul]; exact Nat.min_eq_left (Nat.mul_le_mul_right _ (by omega))
    by_cases hc : c = l
    · refine .inr ⟨b, o, c - l, by rw [if_pos hc], by omega, hlen', fun i u hi => ?_⟩
      have : i < (h - l) * sz := by
        have := (List.getElem?_eq_some_iff.1 hi).1
        rwa [hlen'] at this
      rw [show h - l = 0 by omega] at this; omega
    · refine .inr ⟨b, o + l * sz, c - l, by rw [if_neg hc]; simp [add_none], by omega, hlen', fun i u hi => ?_⟩
      rw [List.getElem?_take] at hi
      split at hi
      · rw [List.getElem?_drop] at hi
        have := h5 _ u hi
        rwa [Nat.add_assoc]
      · cases hi
theorem PE_ixA0 {t e : TypeId} {x y : Operand} {b len i : Nat} {K : IntKind} {z : Int} (ht : C.P.underlying t = some (.array len e)) (hz : ∀ w, (sizeOf e).run C.P w = .ok 1 w)
    (hx : opv env x = some (.pointer (some ⟨b, 0, none⟩))) (hy : opv env y = some (.int K z)) (hi : z = (i : Int)) (hn : i < len) :
    PE C env I ah ⟨some d, .indexAddr t x y, ty, ps, af, none⟩ (.pointer (some ⟨b, i, none⟩)) := by
  have := PE_indexAddrA (C := C) (env := env) (I := I) (ah := ah) (d := d) (ty := ty) (ps := ps) (af := af) ht hz hx hy hi hn
  rwa [Nat.mul_one, Nat.zero_add] at this
theorem PE_ixA1 {t e : TypeId} {x y : Operand} {b o len i : Nat} {K : IntKind} {z : Int} (ht : C.P.underlying t = some (.array len e)) (hz : ∀ w, (sizeOf e).run C.P w = .ok 1 w)
    (hx : opv env x = some (.pointer (some ⟨b, o, none⟩))) (hy : opv env y = some (.int K z)) (hi : z = (i : Int)) (hn : i < len) :
    PE C env I ah ⟨some d, .indexAddr t x y, ty, ps, af, none⟩ (.pointer (some ⟨b, o + i, none⟩)) := by
  have := PE_indexAddrA (C := C) (env := env) (I := I) (ah := ah) (d := d) (ty := ty) (ps := ps) (af := af) ht hz hx hy hi hn
  rwa [Nat.mul_one] at this
theorem PE_cap {t : TypeId} {x : Operand} {a : Option Addr} {n c : Nat} {e : TypeId} (ht : C.P.underlying t = some (.slice e)) (hx : opv env x = some (.slice a n c)) :
    PE C env I ah ⟨some d, .call ⟨.builtin .cap, #[x], #[t]⟩, ty, ps, af, none⟩ (.int .i64 c) := fun ac w he _ => by
  simp [execOp, resolve, invoke, builtin, Builtin.cap_, he.eval hx, run_underlying ht, goInt]

theorem OE_turn {o : Oper} {R R2 : Env → IM → AH → Prop} (h : OE C env I ah o R) (k : ∀ e' I' ah', R e' I' ah' → ∀ w, Sim C.w0 I' ah' w → ∃ I2 ah2, Sim C.w0 I2 ah2 w ∧ R2 e' I2 ah2) : OE C env I ah o R2 := by
  intro a w he hs K Q hK
  refine h a w he hs K Q fun e' I' ah' a' w' hR he' hs' => ?_
  obtain ⟨I2, ah2, hs2, hR2⟩ := k e' I' ah' hR w' hs'
  exact hK e' I2 ah2 a' w' hR2 he' hs2
/-- A literal slice whose cells stay. -/
theorem OE_litI {t e sz bytes n : Nat} {z : Value} {l : List (Nat × Operand)} {us : List (Nat × Value)} (ht : C.P.underlying t = some (.slice e)) (he : TE C.P e sz bytes z) (hd : Nat.blt d C.n = true) (h1 : opps env l = some us)
    (hus : us.map Prod.fst = List.range n) (hsz : ∀ p ∈ us, p.2.cells.size = sz) (hbig : n * sz ≤ 16777216) {vs : List Value} (hvs : (us.flatMap fun p => p.2.cells.toList) = vs) (hl : vs.length = n * sz) :
    OE C env I ah ⟨some d, .buildSlice t n l.toArray, ty, ps, af, none⟩ (fun e' I' ah' => ∃ v, (d, v) :: env = e' ∧ IM.le I I' ∧ ah = ah' ∧ SlI I' v sz n vs ∧ v ≠ .slice none 0 0) :=
  OE_turn (OE_lit ht he hd h1 hus hsz hbig hvs) (by
    rintro e' I' ah' ⟨b, rfl, rfl, rfl, hb, hw⟩ w hs
    have h := hs.freeze (AH.set_same _ _ _)
    rw [AH.del_set, AH.del_none _ hb] at h
    refine ⟨_, _, h, _, rfl, IM.le_add _ _ _ _ (fun o _ => hs.freeI (AH.set_same _ _ _) o), rfl, .inr ⟨b, 0, n, rfl, Nat.le_refl _, hl, fun i u hi => ?_⟩, by simp⟩
    have := IM.add_at I b 0 vs i (List.getElem?_eq_some_iff.1 hi).1
    rw [this]; exact hi)
/-- A literal slice of one's own. -/
theorem OE_litO {t e sz bytes n : Nat} {z : Value} {l : List (Nat × Operand)} {us : List (Nat × Value)} (ht : C.P.underlying t = some (.slice e)) (he : TE C.P e sz bytes z) (hd : Nat.blt d C.n = true) (h1 : opps env l = some us)
    (hus : us.map Prod.fst = List.range n) (hsz : ∀ p ∈ us, p.2.cells.size = sz) (hbig : n * sz ≤ 16777216) {vs : List Value} (hvs : (us.flatMap fun p => p.2.cells.toList) = vs) (hl : vs.length = n * sz) :
    OE C env I ah ⟨some d, .buildSlice t n l.toArray, ty, ps, af, none⟩ (fun e' I' ah' => ∃ v, (d, v) :: env = e' ∧ IM.le I I' ∧ Own I' ah ah' v sz n vs ∧ v ≠ .slice none 0 0) :=
  OE_turn (OE_lit ht he hd h1 hus hsz hbig hvs) (by
    rintro e' I' ah' ⟨b, rfl, rfl, rfl, hb, hw⟩ w hs
    have h := hs.freeze (AH.set_same _ _ _)
    rw [AH.del_set, AH.del_none _ hb] at h
    have hx : AObj.at w b (.tail vs.length vs.length) := by
      obtain ⟨T, hh⟩ := (hs.own b _ (AH.set_same _ _ _)).2
      exact ⟨_, T, hh, by simp, Nat.le_refl _⟩
    have g := h.gain (b := b) (x := .tail vs.length vs.length) hw hx (fun o ho => by
      unfold IM.add; rw [if_neg (by omega)]; exact hs.freeI (AH.set_same _ _ _) o)
    refine ⟨_, _, g, _, rfl, IM.le_add _ _ _ _ (fun o _ => hs.freeI (AH.set_same _ _ _) o), Own.lit hb hl (fun i u hi => ?_), by simp⟩
    have := IM.add_at I b 0 vs i (List.getElem?_eq_some_iff.1 hi).1
    rw [Nat.zero_add] at this; rw [this]; exact hi)
theorem WL_turn {l : List Oper} {J : IM} {bh : AH} (h : ∀ w, Sim C.w0 I ah w → Sim C.w0 J bh w) (k : WL C ops l env J bh Q) : WL C ops l env I ah Q := fun a w he hs => k a w he (h w hs)
theorem CW_turn {c : Code} {J : IM} {bh : AH} (h : ∀ w, Sim C.w0 I ah w → Sim C.w0 J bh w) (k : CW C c env J bh Q) : CW C c env I ah Q := fun a w he hs => k a w he (h w hs)
theorem QA_turn {e : Exit} {J : IM} {bh : AH} (h : ∀ w, Sim C.w0 I ah w → Sim C.w0 J bh w) (k : QA C Q e env J bh) : QA C Q e env I ah := fun a w he hs => k a w he (h w hs)
theorem Sim.cells_tail {w0 w : World} {I : IM} {ah : AH} (h : Sim w0 I ah w) {b : Nat} {vs : List Value} (hb : ah b = some (.cells vs)) {off : Nat} (ho : off ≤ vs.length) : Sim w0 I (ah.set b (.tail off vs.length)) w := by
  obtain ⟨h0, T, hh⟩ := h.own b _ hb
  exact h.gain h0 ⟨_, T, hh, by simp, ho⟩ (fun o _ => h.sep b _ hb o)

/-- append of noughts to nothing: a row of one's own. -/
theorem OE_appendZ {t t' e bytes n : Nat} {K : IntKind} {x y : Operand} {z : Value} (ht : C.P.underlying t = some (.slice e)) (ht' : C.P.underlying t' = some (.int K)) (he : TE C.P e 1 bytes z) (hd : Nat.blt d C.n = true)
    (hx : opv env x = some (.slice none 0 0)) (hy : opv env y = some (.int .i64 n)) (h0 : 0 < n) (hz1 : z.cells = #[z]) (hmax : n * bytes ≤ 140737488355328) (hmax' : n ≤ 140737488355328) :
    OE C env I ah ⟨some d, .call ⟨.builtin .append, #[x, y], #[t, t']⟩, ty, ps, af, none⟩ (fun e' I' ah' => ∃ b c, (d, .slice (some ⟨b, 0, none⟩) n c) :: env = e' ∧ I = I' ∧ ah.set b (.cells (List.replicate c z)) = ah' ∧ ah b = none ∧ n ≤ c) :=
  OE_ex hd (fun a w hen hs => by
    obtain ⟨i, hi, hs1, rfl, hz⟩ := he.tinfo
    have hge := grownCap_ge w n 0 e
    have w1 : IntKind.i64.wrap (n : Int) = n := w64 (by omega) (by omega)
    have hfit := growslice_fits (show 0 < n from h0) hmax
    have hn2' : ¬ (281474976710656 < Builtin.nextslicecap n 0 * i.bytes) := by omega
    have hb2 : ¬ ((281474976710656 : Int) < (n : Int) * (i.bytes : Int)) := by
      have : ((n * i.bytes : Nat) : Int) ≤ 140737488355328 := by omega
      rw [Int.natCast_mul] at this; omega
    have h63' : ¬ (9223372036854775807 < (n : Int)) := by omega
    have hz' : ∀ w, (zeroValue e).run C.P w = .ok z w := he.zero
    have hs' : ∀ w, (sizeOf e).run C.P w = .ok 1 w := he.size
    have hzc : ∀ m, Builtin.zeroCells #[z] m = (List.replicate m z).toArray := fun m => by
      unfold Builtin.zeroCells
      apply Array.ext
      · simp
      · intro j h1 h2; simp [Nat.mod_one]
    refine ⟨.slice (some ⟨w.heap.size, 0, none⟩) n (grownCap w n 0 e), w.drew.alloc (.cells (List.replicate (grownCap w n 0 e) z).toArray e), I, _, ?_, hs.drew.alloc_cells _ e, w.heap.size, grownCap w n 0 e, rfl, rfl, by simp, hs.fresh, hge⟩
    have hl : (List.replicate n z).toArray ++ (List.replicate (grownCap w n 0 e - n) z).toArray = (List.replicate (grownCap w n 0 e) z).toArray := by
      apply Array.ext'
      simp only [Array.toList_append]
      rw [List.replicate_append_replicate]; congr 1; omega
    have hn0 : ¬ ((n : Int) < 0) := by omega
    have hne : n ≠ 0 := by omega
    have hcap : n + w.tape w.drawn (.appendCap n 0 e) % (9223372036854775808 - n) = grownCap w n 0 e := by simp [grownCap, Question.cut]
    have hl' : Array.replicate n z ++ Array.replicate (w.tape w.drawn (.appendCap n 0 e) % (9223372036854775808 - n)) z = Array.replicate (grownCap w n 0 e) z := by
      rw [← hcap]; simp
    simp [execOp, resolve, invoke, builtin, hen.eval hx, hen.eval hy, Builtin.append_, run_underlying ht, run_underlying ht', hs', asInt, asIntOf, w1, hi, hn0, hb2, hne, h63', hn2', hz', hz1, hzc, Question.forced, Builtin.firstCells, newRow, Question.cut, hcap])

/-- Results, some of them in memory. -/
inductive ResL (P : Program) (env : Env) (ah : AH) : List ResultVar → List Value → Prop where
  | nil : ResL P env ah [] []
  | tmp {t : Tmp} {v : Value} {rs : List ResultVar} {vs : List Value} (h : look env t = some v) (r : ResL P env ah rs vs) : ResL P env ah (.tmp t :: rs) (v :: vs)
  | agg {t : Tmp} {T b : Nat} {us : List Value} {rs : List ResultVar} {vs : List Value} (h : look env t = some (.pointer (some ⟨b, 0, none⟩))) (hb : ah b = some (.cells us)) (ht : TA P T us.length) (r : ResL P env ah rs vs) : ResL P env ah (.cell t T :: rs) (.agg us.toArray :: vs)
  | one {t : Tmp} {T b : Nat} {v : Value} {rs : List ResultVar} {vs : List Value} (h : look env t = some (.pointer (some ⟨b, 0, none⟩))) (hb : ah b = some (.cells [v])) (ht : TC P T) (r : ResL P env ah rs vs) : ResL P env ah (.cell t T :: rs) (v :: vs)
theorem results_runR {n : Nat} {a : Act} (he : EnvOK n env a) {w0 w : World} (hs : Sim w0 I ah w) {fn : Func} {rs : List ResultVar} (hr : fn.results = rs.toArray) {vs : List Value} {P : Program} (hv : ResL P env ah rs vs) :
    (results fn a.tmps).run P w = .ok (packRes vs) w := by
  have key : ∀ (rs : List ResultVar) (vs : List Value), ResL P env ah rs vs → (rs.mapM (fun
      | ResultVar.tmp t => (pure (a.tmps.getD t undef) : Sem Value)
      | .cell b t => do loadVar t (← asAddr (a.tmps.getD b undef)))).run P w = .ok vs w := by
    intro rs vs h
    induction h with
    | nil => simp
    | @tmp t v rs vs h r ih =>
      have e : a.tmps.getD t undef = v := by simp [Array.getD_eq_getD_getElem?, he.get t v h]
      rw [List.mapM_cons]
      simp only [Sem.run_bind, e, Sem.run_pure, Result.andThen_ok, ih]
    | @agg t T b us rs vs h hb ht r ih =>
      have e : a.tmps.getD t undef = .pointer (some ⟨b, 0, none⟩) := by simp [Array.getD_eq_getD_getElem?, he.get t _ h]
      have hl := run_loadCells_list (P := P) w ⟨b, 0, none⟩ us (fun j u hj => by rw [add_none, hs.cellOwn hb]; simpa using hj)
      have h1 : (do loadVar T (← asAddr (a.tmps.getD t undef)) : Sem Value).run P w = .ok (.agg us.toArray) w := by
        simp only [Sem.run_bind, e, asAddr, loadVar, ht.agg, ht.size, hl, Sem.run_pure, Result.andThen_ok, if_true]
      rw [List.mapM_cons, Sem.run_bind]
      refine (congrArg (fun r : Result Value => r.andThen _) h1).trans ?_
      simp only [Sem.run_bind, Sem.run_pure, Result.andThen_ok, ih]
    | @one t T b v rs vs h hb ht r ih =>
      have e : a.tmps.getD t undef = .pointer (some ⟨b, 0, none⟩) := by simp [Array.getD_eq_getD_getElem?, he.get t _ h]
      have hc : w.cell? ⟨b, 0, none⟩ = some v := by rw [hs.cellOwn hb]; rfl
      have h1 : (do loadVar T (← asAddr (a.tmps.getD t undef)) : Sem Value).run P w = .ok v w := by
        rw [Sem.run_bind, e]; simp [asAddr, loadVar, ht.agg, hc]
      rw [List.mapM_cons, Sem.run_bind]
      refine (congrArg (fun r : Result Value => r.andThen _) h1).trans ?_
      simp only [Sem.run_bind, Sem.run_pure, Result.andThen_ok, ih]
  unfold results
  rw [hr]
  simp only [List.mapM_toArray, Sem.run_bind, Sem.run_map]
  refine (congrArg (fun r : Result (List Value) => (r.andThen fun a w' => Result.ok a.toArray w').andThen fun a w' => Sem.run P (pure (if h : a.size = 1 then a[0] else Value.tuple a)) w') (key rs vs hv)).trans ?_
  clear key hv
  match vs with
  | [] => rfl
  | [v] => rfl
  | v :: u :: r => rfl
theorem QA_returnR {fn : Func} {w0 : World} {n : Nat} {P : Program} {I0 : IM} {post : Value → IM → AH → Prop} {rs : List ResultVar} (hr : fn.results = rs.toArray) {vs : List Value} (hv : ResL P env ah rs vs)
    (hI : IM.le I0 I) (ah' : AH) (hah : ∀ b x, ah' b = some x → ah b = some x) (hp : post (packRes vs) I ah') : QA ⟨P, w0, n⟩ (bodyPost P fn (RQ w0 I0 post)) .ret env I ah :=
  fun a w he hs => ⟨he.defers, _, results_runR he hs hr hv, _, I, ah', rfl, hI, hs.forget hah, hp⟩
/-- Of what a function made for itself nothing need be told. -/
theorem AH.keep_set {ah0 ah : AH} {b : Nat} {x : AObj} (h : ∀ k y, ah0 k = some y → ah k = some y) (hb : ah b = none) : ∀ k y, ah0 k = some y → (ah.set b x) k = some y := by
  intro k y e
  have := h k y e
  rw [AH.set_ne]
  · exact this
  · rintro rfl; rw [hb] at this; cases this
theorem AH.keep_set' {ah0 ah : AH} {b : Nat} {x : AObj} (h : ∀ k y, ah0 k = some y → ah k = some y) (hb : ah0 b = none) : ∀ k y, ah0 k = some y → (ah.set b x) k = some y := by
  intro k y e
  rw [AH.set_ne]
  · exact h k y e
  · rintro rfl; rw [hb] at e; cases e

/-! ### for i := range n -/
theorem look_skip {env : Env} {t k : Nat} {v : Value} (h : look env k = none) {u : Value} (e : look env t = some u) : look ((k, v) :: env) t = some u := by
  rw [look_cons_ne]
  · exact e
  · rintro rfl; rw [h] at e; cases e
theorem CW_look {c : Code} {r : Env} (s : ∀ t v, look r t = some v → look env t = some v) (h : CW C c r I ah Q) : CW C c env I ah Q :=
  fun a w he hs => h a w ⟨he.defers, he.size, fun t v e => he.get t v (s t v e)⟩ hs

/-- What a round leaves: the counter and the end as they were, the state of the next round. -/
def Next (C : Cx) (St : Nat → Env → IM → AH → Prop) (ti tn n k : Nat) : Act → World → Prop :=
  fun a w => ∃ e2 I2 a2, St (k + 1) e2 I2 a2 ∧ EnvOK C.n ((ti, .int .i64 k) :: (tn, .int .i64 n) :: e2) a ∧ Sim C.w0 I2 a2 w
theorem QA_next {St : Nat → Env → IM → AH → Prop} {ti tn n k : Nat} (e2 : Env) (h : St (k + 1) e2 I ah) (s : EnvSub env ((ti, .int .i64 k) :: (tn, .int .i64 n) :: e2)) :
    QA C (Exit.then (Next C St ti tn n k) Q) .normal env I ah := fun a w he hs => ⟨e2, I, ah, h, he.sub s, hs⟩
def Clear (ti tn tc t2 : Nat) (e : Env) : Prop := look e ti = none ∧ look e tn = none ∧ look e tc = none ∧ look e t2 = none
theorem CW_for {b0 b1 r1 r2 tc ti tn t2 T ty1 ty2 ty3 T' : Nat} {p1 p2 p3 : String} {a1 a2 a3 : Array Edge} {BODY : Code} (n : Nat) (hn : n < 9223372036854775808) (St : Nat → Env → IM → AH → Prop) (e0 : Env)
    (h0 : St 0 e0 I ah) (s0 : EnvSub env ((ti, .int .i64 0) :: (tn, .int .i64 n) :: e0)) (hcl : ∀ k e I ah, St k e I ah → Clear ti tn tc t2 e)
    (hdc : Nat.blt tc C.n = true) (hd2 : Nat.blt t2 C.n = true) (hdi : Nat.blt ti C.n = true) (hne : (Nat.beq tc ti || Nat.beq tc tn || Nat.beq t2 ti || Nat.beq t2 tn || Nat.beq ti tn) = false)
    (body : ∀ k e I ah, k < n → St k e I ah → CW C (.block b1 BODY) ((tc, .bool true) :: (ti, .int .i64 k) :: (tn, .int .i64 n) :: e) I ah (Exit.then (Next C St ti tn n k) (Exit.inBlock b0 Q)))
    (done : ∀ e I ah, St n e I ah → QA C Q .normal ((tc, .bool false) :: (ti, .int .i64 n) :: (tn, .int .i64 n) :: e) I ah) :
    CW C (.block b0 (.loop (.seq (.region r1 #[⟨some tc, .binOp .lss T (.tmp ti) (.tmp tn) T', ty1, p1, a1, none⟩] false)
      (.seq (.cond (.tmp tc) .skip (.exit b0)) (.seq (.block b1 BODY) (.region r2 #[⟨some t2, .binOp .add T (.tmp ti) (.const (.int .i64 1)) T', ty2, p2, a2, none⟩, ⟨some ti, .move (.tmp t2), ty3, p3, a3, none⟩] false)))))) env I ah Q := by
  simp only [Bool.or_eq_false_iff] at hne
  obtain ⟨⟨⟨⟨n1, n2⟩, n3⟩, n4⟩, n5⟩ := hne
  have m1 : tc ≠ ti := by rintro rfl; simp at n1
  have m2 : tc ≠ tn := by rintro rfl; simp at n2
  have m3 : t2 ≠ ti := by rintro rfl; simp at n3
  have m4 : t2 ≠ tn := by rintro rfl; simp at n4
  have m5 : ti ≠ tn := by rintro rfl; simp at n5
  refine CW_block (CW_loop (fun m e' I' a' => ∃ k e2, m = n - k ∧ k ≤ n ∧ e' = (ti, .int .i64 k) :: (tn, .int .i64 n) :: e2 ∧ St k e2 I' a') n ⟨0, e0, by simp, by omega, by simp, h0⟩ s0 ?_)
  rintro m e' I' a' ⟨k, e2, rfl, hk, rfl, hst⟩
  obtain ⟨c1, c2, c3, c4⟩ := hcl k e2 I' a' hst
  have l1 : opv ((ti, Value.int .i64 (k : Int)) :: (tn, .int .i64 n) :: e2) (.tmp ti) = some (.int .i64 k) := look_cons_same _ _ _
  have l2 : opv ((ti, Value.int .i64 (k : Int)) :: (tn, .int .i64 n) :: e2) (.tmp tn) = some (.int .i64 n) := (look_cons_ne _ _ m5).trans (look_cons_same _ _ _)
  refine CW_seq (CW_region (l := [_]) (WL_val hdc (PE_lss l1 l2 rfl) (WL_nil (QA_seq (CW_seq ?_)))))
  by_cases hlt : k < n
  · have hb : decide ((k : Int) < (n : Int)) = true := by simp [hlt]
    rw [hb]
    refine CW_true (look_cons_same _ _ _) (CW_skip (QA_seq (CW_seq ?_)))
    have hbody := body k e2 I' a' hlt hst
    intro a w he hs
    refine wp_mono (hbody a w he hs) ?_
    intro e a w q
    cases e with
    | normal =>
      obtain ⟨e3, I3, a3', hst3, he3, hs3⟩ := q
      have k1 : opv ((ti, Value.int .i64 (k : Int)) :: (tn, .int .i64 n) :: e3) (.tmp ti) = some (.int .i64 k) := look_cons_same _ _ _
      obtain ⟨d1, d2, d3, d4⟩ := hcl _ e3 I3 a3' hst3
      refine CW_region (l := [_, _]) (WL_val hd2 (PE_add (r := (k : Int) + 1) k1 rfl (w64 (by omega) (by omega))) (WL_val hdi (PE_move (x := .tmp t2) (look_cons_same _ _ _)) (WL_nil ?_))) a w he3 hs3
      intro a w he4 hs4
      refine ⟨n - (k + 1), (ti, .int .i64 ((k + 1 : Nat) : Int)) :: (tn, .int .i64 n) :: e3, I3, a3', by omega, ⟨k + 1, e3, rfl, hlt, rfl, hst3⟩, ⟨he4.defers, he4.size, fun t v e => he4.get t v ?_⟩, hs4⟩
      rcases look_cons e with ⟨rfl, rfl⟩ | ⟨hne, e⟩
      · rw [look_cons_same]; simp
      · rw [look_cons_ne _ _ hne]
        rcases look_cons e with ⟨rfl, rfl⟩ | ⟨hne2, e⟩
        · rw [look_cons_ne _ _ m4, look_cons_ne _ _ m5, look_cons_same]
        · by_cases h2 : t2 = t
          · subst h2; rw [d4] at e; cases e
          · rw [look_cons_ne _ _ h2, look_cons_ne _ _ hne, look_cons_ne _ _ hne2]; exact e
    | _ => exact q
  · have hb : decide ((k : Int) < (n : Int)) = false := by simp; omega
    rw [hb]
    refine CW_false (look_cons_same _ _ _) (CW_exit ?_)
    have hkn : k = n := by omega
    subst hkn
    exact QA_then_exit (QA_then_exit (QA_block_here (done e2 I' a' hst)))
/-- The same where the end is a constant. -/
def NextC (C : Cx) (St : Nat → Env → IM → AH → Prop) (ti k : Nat) : Act → World → Prop :=
  fun a w => ∃ e2 I2 a2, St (k + 1) e2 I2 a2 ∧ EnvOK C.n ((ti, .int .i64 k) :: e2) a ∧ Sim C.w0 I2 a2 w
theorem QA_nextC {St : Nat → Env → IM → AH → Prop} {ti k : Nat} (e2 : Env) (h : St (k + 1) e2 I ah) (s : EnvSub env ((ti, .int .i64 k) :: e2)) :
    QA C (Exit.then (NextC C St ti k) Q) .normal env I ah := fun a w he hs => ⟨e2, I, ah, h, he.sub s, hs⟩
def ClearC (ti tc t2 : Nat) (e : Env) : Prop := look e ti = none ∧ look e tc = none ∧ look e t2 = none
theorem CW_forC {b0 b1 r1 r2 tc ti t2 T ty1 ty2 ty3 T' : Nat} {N : Int} {p1 p2 p3 : String} {a1 a2 a3 : Array Edge} {BODY : Code} (n : Nat) (hn : n < 9223372036854775808) (St : Nat → Env → IM → AH → Prop) (e0 : Env)
    (h0 : St 0 e0 I ah) (s0 : EnvSub env ((ti, .int .i64 0) :: e0)) (hcl : ∀ k e I ah, St k e I ah → ClearC ti tc t2 e)
    (hdc : Nat.blt tc C.n = true) (hd2 : Nat.blt t2 C.n = true) (hdi : Nat.blt ti C.n = true) (hne : (Nat.beq tc ti || Nat.beq t2 ti) = false)
    (body : ∀ k e I ah, k < n → St k e I ah → CW C (.block b1 BODY) ((tc, .bool true) :: (ti, .int .i64 k) :: e) I ah (Exit.then (NextC C St ti k) (Exit.inBlock b0 Q)))
    (done : ∀ e I ah, St n e I ah → QA C Q .normal ((tc, .bool false) :: (ti, .int .i64 n) :: e) I ah) (hN : N = (n : Int)) :
    CW C (.block b0 (.loop (.seq (.region r1 #[⟨some tc, .binOp .lss T (.tmp ti) (.const (.int .i64 N)) T', ty1, p1, a1, none⟩] false)
      (.seq (.cond (.tmp tc) .skip (.exit b0)) (.seq (.block b1 BODY) (.region r2 #[⟨some t2, .binOp .add T (.tmp ti) (.const (.int .i64 1)) T', ty2, p2, a2, none⟩, ⟨some ti, .move (.tmp t2), ty3, p3, a3, none⟩] false)))))) env I ah Q := by
  subst hN
  simp only [Bool.or_eq_false_iff] at hne
  obtain ⟨n1, n3⟩ := hne
  have m1 : tc ≠ ti := by rintro rfl; simp at n1
  have m3 : t2 ≠ ti := by rintro rfl; simp at n3
  refine CW_block (CW_loop (fun m e' I' a' => ∃ k e2, m = n - k ∧ k ≤ n ∧ e' = (ti, .int .i64 k) :: e2 ∧ St k e2 I' a') n ⟨0, e0, by simp, by omega, by simp, h0⟩ s0 ?_)
  rintro m e' I' a' ⟨k, e2, rfl, hk, rfl, hst⟩
  obtain ⟨c1, c3, c4⟩ := hcl k e2 I' a' hst
  have l1 : opv ((ti, Value.int .i64 (k : Int)) :: e2) (.tmp ti) = some (.int .i64 k) := look_cons_same _ _ _
  refine CW_seq (CW_region (l := [_]) (WL_val hdc (PE_lss l1 rfl rfl) (WL_nil (QA_seq (CW_seq ?_)))))
  by_cases hlt : k < n
  · have hb : decide ((k : Int) < (n : Int)) = true := by simp [hlt]
    rw [hb]
    refine CW_true (look_cons_same _ _ _) (CW_skip (QA_seq (CW_seq ?_)))
    have hbody := body k e2 I' a' hlt hst
    intro a w he hs
    refine wp_mono (hbody a w he hs) ?_
    intro e a w q
    cases e with
    | normal =>
      obtain ⟨e3, I3, a3', hst3, he3, hs3⟩ := q
      have k1 : opv ((ti, Value.int .i64 (k : Int)) :: e3) (.tmp ti) = some (.int .i64 k) := look_cons_same _ _ _
      obtain ⟨d1, d3, d4⟩ := hcl _ e3 I3 a3' hst3
      refine CW_region (l := [_, _]) (WL_val hd2 (PE_add (r := (k : Int) + 1) k1 rfl (w64 (by omega) (by omega))) (WL_val hdi (PE_move (x := .tmp t2) (look_cons_same _ _ _)) (WL_nil ?_))) a w he3 hs3
      intro a w he4 hs4
      refine ⟨n - (k + 1), (ti, .int .i64 ((k + 1 : Nat) : Int)) :: e3, I3, a3', by omega, ⟨k + 1, e3, rfl, hlt, rfl, hst3⟩, ⟨he4.defers, he4.size, fun t v e => he4.get t v ?_⟩, hs4⟩
      rcases look_cons e with ⟨rfl, rfl⟩ | ⟨hne, e⟩
      · rw [look_cons_same]; simp
      · rw [look_cons_ne _ _ hne]
        by_cases h2 : t2 = t
        · subst h2; rw [d4] at e; cases e
        · rw [look_cons_ne _ _ h2, look_cons_ne _ _ hne]; exact e
    | _ => exact q
  · have hb : decide ((k : Int) < (n : Int)) = false := by simp; omega
    rw [hb]
    refine CW_false (look_cons_same _ _ _) (CW_exit ?_)
    have hkn : k = n := by omega
    subst hkn
    exact QA_then_exit (QA_then_exit (QA_block_here (done e2 I' a' hst)))
end
end SL
end Go.Proofs.YthdpebagkfloaaaDoor
