/- Slices: what is in them, reading, slicing, appending, copying, making; strings and bytes. -/
import Derived.Test.YthdpebagkfloaaaDoorSlB
import Derived.Laws.Bits
namespace Go.Proofs.YthdpebagkfloaaaDoor
open Go Go.RowKit
set_option linter.unusedVariables false
namespace SL

/-- v is a slice of n elements, sz cells each; its cells are vs, and stay. -/
def SlI (I : IM) (v : Value) (sz n : Nat) (vs : List Value) : Prop :=
  ((∃ a, v = .slice a 0 0) ∧ n = 0 ∧ vs = []) ∨
  ∃ b o c, v = .slice (some ⟨b, o, none⟩) n c ∧ n ≤ c ∧ vs.length = n * sz ∧ ∀ i u, vs[i]? = some u → I b (o + i) = some u
theorem SlI.mono {I J : IM} {v : Value} {sz n : Nat} {vs : List Value} (h : SlI I v sz n vs) (hI : IM.le I J) : SlI J v sz n vs := by
  rcases h with h | ⟨b, o, c, h1, h2, h3, h4⟩
  · exact .inl h
  · exact .inr ⟨b, o, c, h1, h2, h3, fun i u e => hI _ _ _ (h4 i u e)⟩
theorem SlI.nil (I : IM) (sz : Nat) : SlI I (.slice none 0 0) sz 0 [] := .inl ⟨⟨_, rfl⟩, rfl, rfl⟩
theorem SlI.len {I : IM} {v : Value} {sz n : Nat} {vs : List Value} (h : SlI I v sz n vs) : vs.length = n * sz := by
  rcases h with ⟨_, rfl, rfl⟩ | ⟨b, o, c, h1, h2, h3, h4⟩
  · simp
  · exact h3
theorem SlI.form {I : IM} {v : Value} {sz n : Nat} {vs : List Value} (h : SlI I v sz n vs) : ∃ a c, v = .slice a n c ∧ n ≤ c ∧ (a = none ↔ v = .slice none 0 0) := by
  rcases h with ⟨⟨_, rfl⟩, rfl, rfl⟩ | ⟨b, o, c, rfl, h2, h3, h4⟩
  · exact ⟨_, _, rfl, Nat.le_refl _, by simp⟩
  · exact ⟨_, _, rfl, h2, by simp⟩
/-- As a source of cells: a slice that can be read now, or a string. -/
def Src (I : IM) (ah : AH) (v : Value) (sz n : Nat) (vs : List Value) : Prop :=
  ((∃ a, v = .slice a 0 0) ∧ n = 0 ∧ vs = []) ∨
  ∃ b o c, v = .slice (some ⟨b, o, none⟩) n c ∧ n ≤ c ∧ vs.length = n * sz ∧ Cells I ah b o vs
theorem SlI.src {I : IM} {v : Value} {sz n : Nat} {vs : List Value} (h : SlI I v sz n vs) (ah : AH) : Src I ah v sz n vs := by
  rcases h with h | ⟨b, o, c, h1, h2, h3, h4⟩
  · exact .inl h
  · exact .inr ⟨b, o, c, h1, h2, h3, fun i u e => .imm (h4 i u e)⟩
theorem Src.own {I : IM} {ah : AH} {b n c sz : Nat} {vs : List Value} (h : ah b = some (.cells vs)) (hn : vs.length = n * sz) (hc : n ≤ c) : Src I ah (.slice (some ⟨b, 0, none⟩) n c) sz n vs :=
  .inr ⟨b, 0, c, rfl, hc, hn, .own h⟩
theorem Src.len {I : IM} {ah : AH} {v : Value} {sz n : Nat} {vs : List Value} (h : Src I ah v sz n vs) : vs.length = n * sz := by
  rcases h with ⟨_, rfl, rfl⟩ | ⟨b, o, c, h1, h2, h3, h4⟩
  · simp
  · exact h3
theorem Src.form {I : IM} {ah : AH} {v : Value} {sz n : Nat} {vs : List Value} (h : Src I ah v sz n vs) : ∃ a c, v = .slice a n c ∧ n ≤ c := by
  rcases h with ⟨⟨_, rfl⟩, rfl, rfl⟩ | ⟨b, o, c, rfl, h2, h3, h4⟩
  · exact ⟨_, _, rfl, Nat.le_refl _⟩
  · exact ⟨_, _, rfl, h2⟩
theorem Src.first {I : IM} {ah : AH} {v : Value} {sz n : Nat} {vs : List Value} (h : Src I ah v sz n vs) {w0 w : World} (hs : Sim w0 I ah w) (P : Program) {m : Nat} (hm : m ≤ n) :
    (Builtin.firstCells sz m v).run P w = .ok (vs.take (m * sz)).toArray w := by
  rcases h with ⟨⟨ea, rfl⟩, rfl, rfl⟩ | ⟨b, o, c, rfl, h2, h3, h4⟩
  · obtain rfl : m = 0 := by omega
    cases ea with
    | none => simp [Builtin.firstCells]
    | some a =>
      simp only [Builtin.firstCells, Nat.zero_mul, List.take_zero]
      rfl
  · have hl : (vs.take (m * sz)).length = m * sz := by
      rw [List.length_take, h3]; exact Nat.min_eq_left (Nat.mul_le_mul_right _ hm)
    exact run_firstCells_some w sz m ⟨b, o, none⟩ n c _ hl fun j u hj => h4.get hs j u (by
      rw [List.getElem?_take] at hj; split at hj
      · exact hj
      · cases hj)

/-- A slice of one's own on top of ah0: all that it holds stays, the room behind it is one's own too. -/
def Own (I : IM) (ah0 ah : AH) (v : Value) (sz n : Nat) (vs : List Value) : Prop :=
  (SlI I v sz n vs ∧ (∃ a, v = .slice a n n) ∧ ah = ah0) ∨
  ∃ b o c fin, v = .slice (some ⟨b, o, none⟩) n c ∧ n ≤ c ∧ vs.length = n * sz ∧ o + c * sz = fin ∧ ah0 b = none ∧ ah = ah0.set b (.tail (o + n * sz) fin) ∧ ∀ i u, vs[i]? = some u → I b (o + i) = some u
theorem Own.sl {I : IM} {ah0 ah : AH} {v : Value} {sz n : Nat} {vs : List Value} (h : Own I ah0 ah v sz n vs) : SlI I v sz n vs := by
  rcases h with ⟨h1, _⟩ | ⟨b, o, c, fin, h1, h2, h3, _, _, _, h4⟩
  · exact h1
  · exact .inr ⟨b, o, c, h1, h2, h3, h4⟩
theorem Own.mono {I J : IM} {ah0 ah : AH} {v : Value} {sz n : Nat} {vs : List Value} (h : Own I ah0 ah v sz n vs) (hI : IM.le I J) : Own J ah0 ah v sz n vs := by
  rcases h with ⟨h, k⟩ | ⟨b, o, c, fin, h1, h2, h3, h4, h5, h6, h7⟩
  · exact .inl ⟨h.mono hI, k⟩
  · exact .inr ⟨b, o, c, fin, h1, h2, h3, h4, h5, h6, fun i u e => hI _ _ _ (h7 i u e)⟩
theorem Own.base {I : IM} {ah0 ah : AH} {v : Value} {sz n : Nat} {vs : List Value} (h : Own I ah0 ah v sz n vs) : ∀ b x, ah0 b = some x → ah b = some x := by
  rcases h with ⟨_, _, rfl⟩ | ⟨b, o, c, fin, _, _, _, _, h5, rfl, _⟩
  · exact fun _ _ h => h
  · intro k x hk
    rw [AH.set_ne]
    · exact hk
    · rintro rfl; rw [h5] at hk; cases hk
theorem Own.nil (I : IM) (ah : AH) (sz : Nat) : Own I ah ah (.slice none 0 0) sz 0 [] := .inl ⟨SlI.nil I sz, ⟨none, rfl⟩, rfl⟩
/-- A slice with no room behind it. -/
theorem Own.full {I : IM} (ah : AH) {a : Option Addr} {sz n : Nat} {vs : List Value} (h : SlI I (.slice a n n) sz n vs) : Own I ah ah (.slice a n n) sz n vs := .inl ⟨h, ⟨a, rfl⟩, rfl⟩
/-- Something else below it changes. -/
theorem Own.below {I : IM} {ah0 ah : AH} {v : Value} {sz n s : Nat} {vs : List Value} {x y : AObj} (h : Own I ah0 ah v sz n vs) (hs : ah0 s = some x) : Own I (ah0.set s y) (ah.set s y) v sz n vs := by
  rcases h with ⟨h1, h2, rfl⟩ | ⟨b, o, c, fin, h1, h2, h3, h4, h5, rfl, h7⟩
  · exact .inl ⟨h1, h2, rfl⟩
  · have hne : b ≠ s := by rintro rfl; rw [h5] at hs; cases hs
    exact .inr ⟨b, o, c, fin, h1, h2, h3, h4, by rw [AH.set_ne _ _ hne]; exact h5, AH.set_comm _ _ _ hne, h7⟩
theorem Own.from {I : IM} {ah0 ah : AH} {a : Option Addr} {sz n c l : Nat} {vs : List Value} (h : Own I ah0 ah (.slice a n c) sz n vs) (hl : l ≤ n) :
    ∃ ah', (∀ b x, ah' b = some x → ah b = some x) ∧ Own I ah0 ah' (.slice (if c = l then a else a.map (·.add (l * sz))) (n - l) (c - l)) sz (n - l) (vs.drop (l * sz)) := by
  have hlen := h.sl.len
  by_cases hcl : c = l
  · subst hcl
    have hnc : n = c := by obtain ⟨a', c', e, h1, _⟩ := h.sl.form; cases e; omega
    subst hnc
    refine ⟨ah0, h.base, .inl ⟨?_, ⟨a, by simp⟩, rfl⟩⟩
    have h0 : vs.drop (n * sz) = [] := List.drop_of_length_le (by omega)
    simp only [if_true, Nat.sub_self, h0]
    exact .inl ⟨⟨_, rfl⟩, rfl, rfl⟩
  · rw [if_neg hcl]
    rcases h with ⟨h1, ⟨a', e⟩, rfl⟩ | ⟨b, o, c', fin, e, h2, h3, h4, h5, rfl, h7⟩
    · cases e
      refine ⟨ah, fun _ _ h => h, .inl ⟨?_, ⟨_, rfl⟩, rfl⟩⟩
      rcases h1 with ⟨⟨_, e⟩, rfl, rfl⟩ | ⟨b, o, c', e, h2, h3, h4⟩
      · cases e; omega
      · cases e
        refine .inr ⟨b, o + l * sz, n - l, by simp [add_none], by omega, by simp [h3, Nat.sub_mul], fun i u e => ?_⟩
        rw [List.getElem?_drop] at e
        rw [Nat.add_assoc]; exact h4 _ _ e
    · cases e
      refine ⟨_, fun _ _ h => h, .inr ⟨b, o + l * sz, c - l, fin, by rw [Option.map_some, add_none], by omega, by simp [h3, Nat.sub_mul], ?_, h5, ?_, fun i u e => ?_⟩⟩
      · rw [← h4, Nat.sub_mul]; have := Nat.mul_le_mul_right sz (show l ≤ c by omega); omega
      · congr 2; rw [Nat.sub_mul]; have := Nat.mul_le_mul_right sz hl; omega
      · rw [List.getElem?_drop] at e
        rw [Nat.add_assoc]; exact h7 _ _ e

section
variable {C : Cx} {ops : Array Oper} {rest : List Oper} {env : Env} {I : IM} {ah : AH} {Q : Post} {d ty : Nat} {ps : String} {af : Array Edge}

/-- A literal row is told as a slice of one's own. -/
theorem WL_freeze {l : List Oper} {b : Nat} {vs : List Value} (hb : ah b = some (.cells vs))
    (k : ∀ I', IM.le I I' → (∀ i u, vs[i]? = some u → I' b i = some u) → WL C ops l env I' (ah.del b) Q) : WL C ops l env I ah Q := by
  intro a w he hs
  refine k (I.add b 0 vs) (IM.le_add I b 0 vs fun o _ => hs.freeI hb o) (fun i u hi => ?_) a w he (hs.freeze hb)
  have := IM.add_at I b 0 vs i (List.getElem?_eq_some_iff.1 hi).1
  rw [Nat.zero_add] at this; rw [this, hi]
theorem WL_freezeT {l : List Oper} {b : Nat} {vs : List Value} (hb : ah b = some (.cells vs))
    (k : ∀ I', IM.le I I' → (∀ i u, vs[i]? = some u → I' b i = some u) → WL C ops l env I' (ah.set b (.tail vs.length vs.length)) Q) : WL C ops l env I ah Q := by
  intro a w he hs
  refine k (I.add b 0 vs) (IM.le_add I b 0 vs fun o _ => hs.freeI hb o) (fun i u hi => ?_) a w he ?_
  · have := IM.add_at I b 0 vs i (List.getElem?_eq_some_iff.1 hi).1
    rw [Nat.zero_add] at this; rw [this, hi]
  · have h := hs.freeze hb
    have g := h.gain (b := b) (x := .tail vs.length vs.length) (hs.own b _ hb).1 (by
      obtain ⟨T, hh⟩ := (hs.own b _ hb).2
      exact ⟨_, T, hh, by simp, Nat.le_refl _⟩) (fun o ho => by
      unfold IM.add; rw [if_neg (by omega)]; exact hs.freeI hb o)
    rwa [AH.set_del] at g
theorem CW_freeze {c : Code} {b : Nat} {vs : List Value} (hb : ah b = some (.cells vs))
    (k : ∀ I', IM.le I I' → (∀ i u, vs[i]? = some u → I' b i = some u) → CW C c env I' (ah.del b) Q) : CW C c env I ah Q := by
  intro a w he hs
  refine k (I.add b 0 vs) (IM.le_add I b 0 vs fun o _ => hs.freeI hb o) (fun i u hi => ?_) a w he (hs.freeze hb)
  have := IM.add_at I b 0 vs i (List.getElem?_eq_some_iff.1 hi).1
  rw [Nat.zero_add] at this; rw [this, hi]
theorem QA_freezeT {e : Exit} {b : Nat} {vs : List Value} (hb : ah b = some (.cells vs))
    (k : ∀ I', IM.le I I' → (∀ i u, vs[i]? = some u → I' b i = some u) → QA C Q e env I' (ah.set b (.tail vs.length vs.length))) : QA C Q e env I ah := by
  intro a w he hs
  refine k (I.add b 0 vs) (IM.le_add I b 0 vs fun o _ => hs.freeI hb o) (fun i u hi => ?_) a w he ?_
  · have := IM.add_at I b 0 vs i (List.getElem?_eq_some_iff.1 hi).1
    rw [Nat.zero_add] at this; rw [this, hi]
  · have h := hs.freeze hb
    have g := h.gain (b := b) (x := .tail vs.length vs.length) (hs.own b _ hb).1 (by
      obtain ⟨T, hh⟩ := (hs.own b _ hb).2
      exact ⟨_, T, hh, by simp, Nat.le_refl _⟩) (fun o ho => by
      unfold IM.add; rw [if_neg (by omega)]; exact hs.freeI hb o)
    rwa [AH.set_del] at g
theorem Own.lit {I : IM} {ah0 : AH} {b n sz : Nat} {vs : List Value} (h0 : ah0 b = none) (hn : vs.length = n * sz) (hI : ∀ i u, vs[i]? = some u → I b i = some u) :
    Own I ah0 (ah0.set b (.tail vs.length vs.length)) (.slice (some ⟨b, 0, none⟩) n n) sz n vs :=
  .inr ⟨b, 0, n, vs.length, rfl, Nat.le_refl _, hn, by simp [hn], h0, by simp [hn], fun i u e => by simpa using hI i u e⟩

/-! ### Lengths, elements, pieces -/
theorem PE_len {t : TypeId} {x : Operand} {a : Option Addr} {n c : Nat} {e : TypeId} (ht : C.P.underlying t = some (.slice e)) (hx : opv env x = some (.slice a n c))
    : PE C env I ah ⟨some d, .call ⟨.builtin .len, #[x], #[t]⟩, ty, ps, af, none⟩ (.int .i64 n) := fun ac w he _ => by simp [execOp, resolve, invoke, builtin, Builtin.len_, he.eval hx, run_underlying ht, goInt]
theorem PE_lenS {t : TypeId} {x : Operand} {s : ByteArray} (ht : C.P.underlying t = some .string) (hx : opv env x = some (.string s))
    : PE C env I ah ⟨some d, .call ⟨.builtin .len, #[x], #[t]⟩, ty, ps, af, none⟩ (.int .i64 s.size) := fun ac w he _ => by simp [execOp, resolve, invoke, builtin, Builtin.len_, he.eval hx, run_underlying ht, goInt]
theorem PE_min {x y : Operand} {ts : Array TypeId} {K : IntKind} {p q : Int} (hx : opv env x = some (.int K p)) (hy : opv env y = some (.int K q))
    : PE C env I ah ⟨some d, .call ⟨.builtin .min, #[x, y], ts⟩, ty, ps, af, none⟩ (.int K (min p q)) := fun ac w he _ => by
    have : (if q < p then q else p) = min p q := by simp only [Int.min_def]; split <;> split <;> omega
    simp [execOp, resolve, invoke, builtin, Builtin.min_, he.eval hx, he.eval hy, Builtin.min2, this]
theorem PE_max {x y : Operand} {ts : Array TypeId} {K : IntKind} {p q : Int} (hx : opv env x = some (.int K p)) (hy : opv env y = some (.int K q))
    : PE C env I ah ⟨some d, .call ⟨.builtin .max, #[x, y], ts⟩, ty, ps, af, none⟩ (.int K (max p q)) := fun ac w he _ => by
    have : (if p < q then q else p) = max p q := by simp only [Int.max_def]; split <;> split <;> omega
    simp [execOp, resolve, invoke, builtin, Builtin.max_, he.eval hx, he.eval hy, Builtin.max2, this]
/-- The address of an element of a slice. -/
theorem PE_indexAddr {t e : TypeId} {x y : Operand} {b o n c sz i : Nat} {K : IntKind} {z : Int} (ht : C.P.underlying t = some (.slice e)) (hz : ∀ w, (sizeOf e).run C.P w = .ok sz w) (hx : opv env x = some (.slice (some ⟨b, o, none⟩) n c)) (hy : opv env y = some (.int K z)) (hi : z = (i : Int)) (hn : i < n) : PE C env I ah ⟨some d, .indexAddr t x y, ty, ps, af, none⟩ (.pointer (some ⟨b, o + i * sz, none⟩)) := fun ac w he _ => by
    subst hi
    simp [execOp, he.eval hx, he.eval hy, Instr.indexAt, asIntOf, run_underlying ht, hz, hn, add_none]
theorem PE_indexI {t e : TypeId} {x y : Operand} {v : Value} {n sz i : Nat} {vs : List Value} {K : IntKind} {z : Int} (ht : C.P.underlying t = some (.slice e)) (hz : ∀ w, (sizeOf e).run C.P w = .ok sz w) (hx : opv env x = some v) (hs : SlI I v sz n vs) (hy : opv env y = some (.int K z)) (hi : z = (i : Int)) (hn : i < n)
    : ∃ b o, (∀ j u, j < sz → vs[i * sz + j]? = some u → I b (o + j) = some u) ∧ ∀ (J : IM) (bh : AH), PE C env J bh ⟨some d, .indexAddr t x y, ty, ps, af, none⟩ (.pointer (some ⟨b, o, none⟩)) := by
  rcases hs with ⟨⟨ea, rfl⟩, rfl, rfl⟩ | ⟨b, o, c, rfl, h2, h3, h4⟩
  · omega
  · exact ⟨b, o + i * sz, fun j u hj e => by
      have := h4 _ u e
      rwa [Nat.add_assoc], fun J bh => PE_indexAddr ht hz hx hy hi hn⟩
/-- The address of an element of an array variable. -/
theorem PE_indexAddrA {t e : TypeId} {x y : Operand} {b o len sz i : Nat} {K : IntKind} {z : Int} (ht : C.P.underlying t = some (.array len e)) (hz : ∀ w, (sizeOf e).run C.P w = .ok sz w) (hx : opv env x = some (.pointer (some ⟨b, o, none⟩))) (hy : opv env y = some (.int K z)) (hi : z = (i : Int)) (hn : i < len) : PE C env I ah ⟨some d, .indexAddr t x y, ty, ps, af, none⟩ (.pointer (some ⟨b, o + i * sz, none⟩)) := fun ac w he _ => by
    subst hi
    simp [execOp, he.eval hx, he.eval hy, Instr.indexAt, Instr.sureAddr, asIntOf, run_underlying ht, hz, hn, add_none]
/-- An element of an array value. -/
theorem PE_indexA {t e : TypeId} {x y : Operand} {len i : Nat} {vs : Array Value} {v : Value} {K : IntKind} {z : Int} (ht : C.P.underlying t = some (.array len e)) (he1 : TC C.P e) (hx : opv env x = some (.agg vs)) (hy : opv env y = some (.int K z)) (hi : z = (i : Int)) (hn : i < len) (hv : vs[i]? = some v) : PE C env I ah ⟨some d, .index t x y, ty, ps, af, none⟩ (v) := fun ac w he _ => by
    subst hi
    simp [execOp, he.eval hx, he.eval hy, Instr.index, asIntOf, run_underlying ht, he1.size, he1.agg, hn, part, hv]
/-- A byte of a string. -/
theorem PE_indexS {t : TypeId} {x y : Operand} {s : ByteArray} {i : Nat} {K : IntKind} {z : Int} (ht : C.P.underlying t = some .string) (hx : opv env x = some (.string s)) (hy : opv env y = some (.int K z)) (hi : z = (i : Int)) (hn : i < s.size) : PE C env I ah ⟨some d, .index t x y, ty, ps, af, none⟩ (.int .u8 (s[i].toNat : Int)) := fun ac w he _ => by
    subst hi
    have : s[i]? = some s[i] := getElem?_pos s i hn
    simp [execOp, he.eval hx, he.eval hy, Instr.index, asIntOf, run_underlying ht, this]

def bnd (env : Env) : Option Operand → Nat → Option Nat → Prop
  | none, _, none => True
  | some x, m, some l => ∃ K, opv env x = some (.int K (l : Int)) ∧ l ≤ m
  | _, _, _ => False
/-- A piece of a slice, x[l:h], h at most its length. -/
theorem PE_sliceAddr {t e : TypeId} {x : Operand} {lo hi : Option Operand} {a : Option Addr} {n c sz : Nat} {l h : Option Nat} (ht : C.P.underlying t = some (.slice e)) (hz : ∀ w, (sizeOf e).run C.P w = .ok sz w) (hx : opv env x = some (.slice a n c)) (hnc : n ≤ c) (hh : bnd env hi n h) (hl : bnd env lo (h.getD n) l)
    : PE C env I ah ⟨some d, .slice t x lo hi none, ty, ps, af, none⟩ (.slice (if c = l.getD 0 then a else a.map (·.add (l.getD 0 * sz))) (h.getD n - l.getD 0) (c - l.getD 0)) := fun ac w he _ => by
    have key : (Instr.sliceBounds true n c (lo.map ac.eval) (hi.map ac.eval) none).run C.P w = .ok (l.getD 0, h.getD n, c) w := by
      cases hi with
      | none =>
        cases h with
        | some _ => exact hh.elim
        | none =>
          cases lo with
          | none => cases l with
            | some _ => exact hl.elim
            | none => simp [Instr.sliceBounds]
          | some y => cases l with
            | none => exact hl.elim
            | some l =>
              obtain ⟨K, h1, h2⟩ := hl
              simp only [Option.getD_none] at h2
              have h2' : (l : Int) ≤ (n : Int) := by omega
              simp [Instr.sliceBounds, he.eval h1, Instr.sliceBound, asIntOf, h2]
      | some y =>
        cases h with
        | none => exact hh.elim
        | some h =>
          obtain ⟨K, h1, h2⟩ := hh
          have h3 : (h : Int) ≤ (c : Int) := by omega
          cases lo with
          | none => cases l with
            | some _ => exact hl.elim
            | none => simp [Instr.sliceBounds, he.eval h1, Instr.sliceBound, asIntOf, (show h ≤ c by omega)]
          | some y => cases l with
            | none => exact hl.elim
            | some l =>
              obtain ⟨K', h4, h5⟩ := hl
              simp only [Option.getD_some] at h5
              simp [Instr.sliceBounds, he.eval h1, he.eval h4, Instr.sliceBound, asIntOf, (show h ≤ c by omega), h5]
    simp [execOp, he.eval hx, Instr.sliceAt, Instr.slice, run_underlying ht, hz, key]
theorem PE_sliceI {t e : TypeId} {x : Operand} {lo hi : Option Operand} {v : Value} {n sz : Nat} {vs : List Value} {l h : Option Nat} (ht : C.P.underlying t = some (.slice e)) (hz : ∀ w, (sizeOf e).run C.P w = .ok sz w) (hx : opv env x = some v) (hs : SlI I v sz n vs) (hh : bnd env hi n h) (hl : bnd env lo (h.getD n) l)
    : ∃ v', SlI I v' sz (h.getD n - l.getD 0) ((vs.drop (l.getD 0 * sz)).take ((h.getD n - l.getD 0) * sz)) ∧ ∀ (J : IM) (bh : AH), PE C env J bh ⟨some d, .slice t x lo hi none, ty, ps, af, none⟩ v' := by
  have h1 : h.getD n ≤ n := by
    cases hi <;> cases h <;> simp_all [bnd]
  have h2 : l.getD 0 ≤ h.getD n := by
    cases lo <;> cases l <;> simp_all [bnd]
  have hlen := hs.len
  rcases hs with ⟨⟨ea, rfl⟩, rfl, rfl⟩ | ⟨b, o, c, rfl, h3, h4, h5⟩
  · have e1 : h.getD 0 = 0 := by omega
    have e2 : l.getD 0 = 0 := by omega
    refine ⟨.slice ea 0 0, .inl ⟨⟨_, rfl⟩, by simp [e1], by simp⟩, fun J bh => ?_⟩
    have := PE_sliceAddr (C := C) (I := J) (ah := bh) (d := d) (ty := ty) (ps := ps) (af := af) ht hz hx (Nat.le_refl _) hh hl
    rw [e1, e2] at this
    simpa using this
  · refine ⟨_, ?_, fun J bh => PE_sliceAddr ht hz hx h3 hh hl⟩
    generalize h.getD n = h' at *
    generalize l.getD 0 = l' at *
    refine .inr ?_
    have hlen' : ((vs.drop (l' * sz)).take ((h' - l') * sz)).length = (h' - l') * sz := by
      rw [List.length_take, List.length_drop, h4, ← Nat.sub_mul]; exact Nat.min_eq_left (Nat.mul_le_mul_right _ (by omega))
    by_cases hc : c = l'
    · refine ⟨b, o, c - l', by rw [if_pos hc], by omega, hlen', fun i u hi => ?_⟩
      have : i < (h' - l') * sz := by
        have := (List.getElem?_eq_some_iff.1 hi).1
        rwa [hlen'] at this
      rw [show h' - l' = 0 by omega] at this; omega
    · refine ⟨b, o + l' * sz, c - l', by rw [if_neg hc]; simp [add_none], by omega, hlen', fun i u hi => ?_⟩
      rw [List.getElem?_take] at hi
      split at hi
      · rw [List.getElem?_drop] at hi
        have := h5 _ u hi
        rwa [Nat.add_assoc]
      · cases hi
end
end SL
end Go.Proofs.YthdpebagkfloaaaDoor
