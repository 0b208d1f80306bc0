/- journal, the plain law: names, frames, what a crash leaves of a row of frames. -/
import Derived.Test.YthdpebagkfloaaaDoorPW
namespace Go.Proofs.YthdpebagkfloaaaDoor
open Go Go.RowKit SL
set_option linter.unusedVariables false
set_option linter.unusedSimpArgs false
set_option maxRecDepth 100000
theorem dig_facts : ∀ a, a < 36 → okb (dig a) = true ∧ dig a ≠ 46 ∧ ∀ b, b < 36 → dig a = dig b → a = b := by decide
theorem fmt36_all (u : Nat) : ∀ x ∈ fmt36 u, okb x = true ∧ x ≠ 46 := by
  induction u using Nat.strongRecOn with
  | _ u ih =>
    intro x hx
    by_cases h : u < 36
    · rw [fmt36_lo h] at hx
      rw [List.mem_singleton.1 hx]
      exact ⟨(dig_facts u h).1, (dig_facts u h).2.1⟩
    · rw [fmt36_hi h] at hx
      rcases List.mem_append.1 hx with hx | hx
      · exact ih _ (by omega) x hx
      · rw [List.mem_singleton.1 hx]
        exact ⟨(dig_facts _ (Nat.mod_lt _ (by omega))).1, (dig_facts _ (Nat.mod_lt _ (by omega))).2.1⟩
theorem fmt36_pos (u : Nat) : 1 ≤ (fmt36 u).length := by
  by_cases h : u < 36
  · rw [fmt36_lo h]; simp
  · rw [fmt36_hi h]; simp
theorem fmt36_inj : ∀ (u v : Nat), fmt36 u = fmt36 v → u = v := by
  intro u
  induction u using Nat.strongRecOn with
  | _ u ih =>
    intro v h
    by_cases hu : u < 36 <;> by_cases hv : v < 36
    · rw [fmt36_lo hu, fmt36_lo hv] at h
      exact (dig_facts u hu).2.2 v hv (by simpa using h)
    · rw [fmt36_lo hu, fmt36_hi hv] at h
      have := congrArg List.length h
      have h1 := fmt36_pos (v / 36)
      simp at this; rw [this] at h1; simp at h1
    · rw [fmt36_hi hu, fmt36_lo hv] at h
      have := congrArg List.length h
      have h1 := fmt36_pos (u / 36)
      simp at this; rw [this] at h1; simp at h1
    · rw [fmt36_hi hu, fmt36_hi hv] at h
      have h2 := List.append_inj' h rfl
      have h3 := ih (u / 36) (by omega) _ h2.1
      have h4 := (dig_facts (u % 36) (Nat.mod_lt _ (by omega))).2.2 (v % 36) (Nat.mod_lt _ (by omega)) (by simpa using h2.2)
      omega
theorem pname_data (t p : Nat) : (pname t p).data.toList = 114 :: (fmt36 t ++ 46 :: fmt36 p) := by
  unfold pname; simp
theorem split46 : ∀ (a b c d : List UInt8), (∀ x ∈ a, x ≠ 46) → (∀ x ∈ c, x ≠ 46) → a ++ 46 :: b = c ++ 46 :: d → a = c ∧ b = d
  | [], b, [], d, _, _, h => ⟨rfl, by simpa using h⟩
  | [], b, x :: c, d, _, h2, h => by
    simp only [List.nil_append, List.cons_append, List.cons.injEq] at h
    exact absurd h.1.symm (h2 x (by simp))
  | x :: a, b, [], d, h1, _, h => by
    simp only [List.nil_append, List.cons_append, List.cons.injEq] at h
    exact absurd h.1 (h1 x (by simp))
  | x :: a, b, y :: c, d, h1, h2, h => by
    simp only [List.cons_append, List.cons.injEq] at h
    have := split46 a b c d (fun z hz => h1 z (by simp [hz])) (fun z hz => h2 z (by simp [hz])) h.2
    exact ⟨by rw [h.1, this.1], this.2⟩
theorem pname_inj {t p t' p' : Nat} (h : pname t p = pname t' p') : t = t' ∧ p = p' := by
  have := congrArg (fun k : ByteArray => k.data.toList) h
  simp only [pname_data, List.cons.injEq, true_and] at this
  have := split46 _ _ _ _ (fun x hx => (fmt36_all t x hx).2) (fun x hx => (fmt36_all t' x hx).2) this
  exact ⟨fmt36_inj _ _ this.1, fmt36_inj _ _ this.2⟩
theorem pname_base (t p : Nat) : pname t p ≠ baseK := by
  intro h
  have := congrArg (fun k : ByteArray => k.data.toList) h
  simp only [pname_data] at this
  cases this
theorem pname_new (t p : Nat) : pname t p ≠ newK := by
  intro h
  have := congrArg (fun k : ByteArray => k.data.toList) h
  simp only [pname_data] at this
  cases this
theorem pname_good {t p : Nat} (ht : t < 36 ^ 9) (hp : p < 36 ^ 9) : good (pname t p) = true := by
  have h1 := (fmt36_len 8 t ht).1
  have h2 := (fmt36_len 8 p hp).1
  unfold good
  rw [pname_data]
  unfold goodName
  simp only [List.all_cons, List.all_append, List.length_cons, List.length_append, Bool.and_eq_true, decide_eq_true_eq]
  refine ⟨⟨⟨rfl, ?_, rfl, ?_⟩, by omega⟩, by omega⟩
  · rw [List.all_eq_true]; exact fun x hx => (fmt36_all t x hx).1
  · rw [List.all_eq_true]; exact fun x hx => (fmt36_all p x hx).1
/-! ### Numbers -/
theorem foldl_big : ∀ (b : List UInt8) (v : Nat), b.foldl (fun v x => v * 256 + x.toNat) v = v * 256 ^ b.length + b.foldl (fun v x => v * 256 + x.toNat) 0
  | [], v => by simp
  | x :: r, v => by
    rw [List.foldl_cons, foldl_big r (v * 256 + x.toNat), List.foldl_cons, foldl_big r (0 * 256 + x.toNat), List.length_cons, Nat.pow_succ, Nat.add_mul, Nat.zero_mul, Nat.zero_add, Nat.mul_assoc, Nat.mul_comm 256, Nat.add_assoc]
theorem ofBig_append (a b : List UInt8) : ofBig (a ++ b) = ofBig a * 256 ^ b.length + ofBig b := by
  unfold ofBig; rw [List.foldl_append]; exact foldl_big b _
theorem ofBig_bigB (v : Nat) : ∀ m, ofBig (bigB v m) = v % 256 ^ m
  | 0 => by simp [bigB, ofBig, Nat.mod_one]
  | m + 1 => by
    rw [bigB, show UInt8.ofNat (v / 2 ^ (8 * m)) :: bigB v m = [UInt8.ofNat (v / 2 ^ (8 * m))] ++ bigB v m from rfl, ofBig_append, ofBig_bigB v m, bigB_len]
    have e1 : ofBig [UInt8.ofNat (v / 2 ^ (8 * m))] = v / 2 ^ (8 * m) % 256 := by simp [ofBig]
    rw [e1, show 2 ^ (8 * m) = 256 ^ m by rw [Nat.pow_mul]]
    rw [Nat.pow_succ, Nat.mod_mul]
    rw [Nat.mul_comm]; omega
/-! ### Frames -/
theorem next_frame (b r : List UInt8) (hb : b.length < 4294967296) : nextP (frameB b ++ r) = some (b, r) := by
  have h4 := bigB_len b.length 4
  have hs := sha_size (bigB b.length 4 ++ b)
  have h16 : ((sha (bigB b.length 4 ++ b)).take 16).length = 16 := by simp [hs]
  have hl := frameB_len b
  have e4 : (frameB b ++ r).take 4 = bigB b.length 4 := by
    unfold frameB; rw [List.append_assoc, List.append_assoc, List.take_append_of_le_length (by omega), List.take_of_length_le (by omega)]
  have d4 : (frameB b ++ r).drop 4 = (sha (bigB b.length 4 ++ b)).take 16 ++ (b ++ r) := by
    unfold frameB; rw [List.append_assoc, List.append_assoc, List.drop_append_of_le_length (by omega), List.drop_eq_nil_of_le (by omega)]; simp
  have d20 : (frameB b ++ r).drop 20 = b ++ r := by
    have : (frameB b ++ r).drop 20 = ((frameB b ++ r).drop 4).drop 16 := by rw [List.drop_drop]
    rw [this, d4, List.drop_append_of_le_length (by omega), List.drop_eq_nil_of_le (by omega)]; simp
  have hob : ofBig (bigB b.length 4) = b.length := by rw [ofBig_bigB, Nat.mod_eq_of_lt (by omega)]
  unfold nextP
  rw [if_neg (by simp; omega), e4, hob, if_neg (by simp; omega)]
  have t1 : ((frameB b ++ r).drop 20).take b.length = b := by rw [d20, List.take_append_of_le_length (Nat.le_refl _), List.take_of_length_le (Nat.le_refl _)]
  have t2 : ((frameB b ++ r).drop 4).take 16 = (sha (bigB b.length 4 ++ b)).take 16 := by rw [d4, List.take_append_of_le_length (by omega), List.take_of_length_le (by omega)]
  have t3 : (frameB b ++ r).drop (20 + b.length) = r := by
    have : (frameB b ++ r).drop (20 + b.length) = ((frameB b ++ r).drop 20).drop b.length := by rw [List.drop_drop]
    rw [this, d20]; simp
  rw [t1, t2, if_pos rfl, t3]
theorem parse_frame (b r : List UInt8) (hb : b.length < 4294967296) : parse (frameB b ++ r) = (b :: (parse r).1, (parse r).2) := parse_some (next_frame b r hb)
theorem parse_frames (r : List UInt8) : ∀ (ls : List (List UInt8)), (∀ l ∈ ls, l.length < 4294967296) → parse ((ls.map frameB).flatten ++ r) = (ls ++ (parse r).1, (parse r).2)
  | [], _ => rfl
  | l :: ls, h => by
    rw [List.map_cons, List.flatten_cons, List.append_assoc, parse_frame l _ (h l (by simp)), parse_frames r ls (fun x hx => h x (by simp [hx]))]
    rfl
/-- What is clean stays, and what is behind it is read on. -/
theorem parse_app : ∀ (n : Nat) (a r : List UInt8), a.length ≤ n → (parse a).2 = true → parse (a ++ r) = ((parse a).1 ++ (parse r).1, (parse r).2)
  | 0, a, r, hn, _ => by
    obtain rfl : a = [] := List.length_eq_zero_iff.1 (by omega)
    rfl
  | n + 1, a, r, hn, hc => by
    by_cases ha : a = []
    · subst ha; rfl
    · cases hx : nextP a with
      | none => rw [parse_none ha hx] at hc; cases hc
      | some p =>
        obtain ⟨x, y⟩ := p
        have hlen := nextP_len hx
        rw [parse_some hx] at hc ⊢
        have hx' : nextP (a ++ r) = some (x, y ++ r) := by
          unfold nextP at hx ⊢
          have l20 : 20 ≤ a.length := by omega
          have e4 : (a ++ r).take 4 = a.take 4 := List.take_append_of_le_length (by omega)
          rw [if_neg (by omega)] at hx
          rw [if_neg (by simp; omega), e4]
          split at hx
          · cases hx
          · rename_i hle
            rw [if_neg (by simp; omega)]
            have d1 : ((a ++ r).drop 20).take (ofBig (a.take 4)) = (a.drop 20).take (ofBig (a.take 4)) := by
              rw [List.drop_append_of_le_length (by omega), List.take_append_of_le_length (by simp; omega)]
            have d2 : ((a ++ r).drop 4).take 16 = (a.drop 4).take 16 := by
              rw [List.drop_append_of_le_length (by omega), List.take_append_of_le_length (by simp; omega)]
            have d3 : (a ++ r).drop (20 + ofBig (a.take 4)) = a.drop (20 + ofBig (a.take 4)) ++ r := List.drop_append_of_le_length (by omega)
            rw [d1, d2, d3]
            split at hx
            · rename_i heq
              rw [if_pos heq]
              simp only [Option.some.injEq, Prod.mk.injEq] at hx ⊢
              exact ⟨hx.1, by rw [hx.2]⟩
            · cases hx
        rw [parse_some hx', parse_app n y r (by omega) hc]
        rfl
theorem zero_sha : ¬ (sha [0, 0, 0, 0]).take 16 = List.replicate 16 0 := by
  intro h
  have h0 : (sha [0, 0, 0, 0]).head? = some 223 := by kernel_rfl
  have h1 : ((sha [0, 0, 0, 0]).take 16).head? = (sha [0, 0, 0, 0]).head? := by
    cases hs : sha [0, 0, 0, 0] with
    | nil => rfl
    | cons a l => rfl
  rw [h, h0] at h1
  cases h1
/-- A row of zeros is no frame. -/
theorem next_zero (n : Nat) (r : List UInt8) (hn : 20 ≤ n) : nextP (List.replicate n 0 ++ r) = none := by
  have e4 : (List.replicate n (0 : UInt8) ++ r).take 4 = [0, 0, 0, 0] := by
    rw [List.take_append_of_le_length (by simp; omega), List.take_replicate, Nat.min_eq_left (by omega)]; rfl
  have d4 : ((List.replicate n (0 : UInt8) ++ r).drop 4).take 16 = List.replicate 16 0 := by
    rw [List.drop_append_of_le_length (by simp; omega), List.take_append_of_le_length (by simp; omega), List.drop_replicate, List.take_replicate, Nat.min_eq_left (by omega)]
  unfold nextP
  rw [if_neg (by simp; omega), e4, if_neg (by simp [ofBig])]
  rw [d4, show ofBig [0, 0, 0, 0] = 0 from rfl, List.take_zero, List.append_nil, if_neg zero_sha]
/-- A frame that is cut is none. -/
theorem next_cut (b : List UInt8) (k : Nat) (hb : b.length < 4294967296) (hk : k < (frameB b).length) : nextP ((frameB b).take k) = none := by
  have hl := frameB_len b
  have h4 := bigB_len b.length 4
  have hob : ofBig (bigB b.length 4) = b.length := by rw [ofBig_bigB, Nat.mod_eq_of_lt (by omega)]
  unfold nextP
  by_cases h20 : k < 20
  · rw [if_pos (by simp; omega)]
  · rw [if_neg (by simp; omega)]
    have e4 : ((frameB b).take k).take 4 = bigB b.length 4 := by
      rw [List.take_take, Nat.min_eq_left (by omega)]
      unfold frameB; rw [List.append_assoc, List.take_append_of_le_length (by omega), List.take_of_length_le (by omega)]
    rw [e4, hob, if_pos (by simp; omega)]

end Go.Proofs.YthdpebagkfloaaaDoor

