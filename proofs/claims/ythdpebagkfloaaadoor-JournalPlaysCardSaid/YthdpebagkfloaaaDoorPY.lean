/- journal, the plain law: what a crash leaves, what Open makes of it. -/
import Derived.Test.YthdpebagkfloaaaDoorPX
namespace Go.Proofs.YthdpebagkfloaaaDoor
open Go Go.RowKit SL
set_option linter.unusedVariables false
set_option linter.unusedSimpArgs false
set_option maxRecDepth 100000
def crashL (keep : Nat) (torn : Int) (n : Nat) : Nat → List (List UInt8) → List UInt8
  | _, [] => []
  | i, p :: ps => if i < n then crashPart keep torn n i p ++ crashL keep torn n (i + 1) ps else []
theorem crashL_end (keep : Nat) (torn : Int) (n i : Nat) (h : n ≤ i) : ∀ ps, crashL keep torn n i ps = []
  | [] => rfl
  | p :: ps => by unfold crashL; rw [if_neg (by omega)]
theorem crashTo_L (keep : Nat) (torn : Int) (n : Nat) (parts : List (List UInt8)) : ∀ k, k ≤ n → k ≤ parts.length → crashL keep torn n 0 parts = crashTo keep torn n parts k ++ crashL keep torn n k (parts.drop k)
  | 0, _, _ => by simp [crashTo]
  | k + 1, h, h' => by
    rw [crashTo_L keep torn n parts k (by omega) (by omega), crashTo]
    have e : parts.drop k = parts.getD k [] :: parts.drop (k + 1) := by
      rw [List.drop_eq_getElem_cons (by omega)]
      simp [List.getD, List.getElem?_eq_getElem (show k < parts.length by omega)]
    rw [e]
    conv => lhs; rw [crashL, if_pos (show k < n by omega)]
    rw [List.append_assoc]
theorem crashB_L (keep : Nat) (torn : Int) (parts : List (List UInt8)) : crashB keep torn parts = crashL keep torn (lastS keep parts.length) 0 parts := by
  have hl := lastS_le keep parts.length
  rw [crashTo_L keep torn (lastS keep parts.length) parts (lastS keep parts.length) (Nat.le_refl _) hl, crashL_end _ _ _ _ (Nat.le_refl _), List.append_nil]
  rfl
theorem crash_parse (keep : Nat) (torn : Int) (n : Nat) : ∀ (ls : List (List UInt8)) (i : Nat), (∀ l ∈ ls, l.length ≤ 16384) → ∃ m, m ≤ ls.length ∧ (parse (crashL keep torn n i (ls.map frameB))).1 = ls.take m
  | [], i, _ => ⟨0, Nat.le_refl _, rfl⟩
  | l :: ls, i, h => by
    have hl := h l (by simp)
    have hfl := frameB_len l
    rw [List.map_cons, crashL]
    by_cases hi : i < n
    · rw [if_pos hi]
      by_cases hs : stays keep i = true
      · by_cases ht : i + 1 = n ∧ 0 < torn
        · rw [crashPart, if_pos hs, if_pos ht, crashL_end keep torn n (i + 1) (Nat.le_of_eq ht.1.symm), List.append_nil]
          refine ⟨0, by simp, ?_⟩
          have hk : (frameB l).length - min torn.toNat (frameB l).length < (frameB l).length := by omega
          have hc := next_cut l _ (by omega) hk
          by_cases he : (frameB l).take ((frameB l).length - min torn.toNat (frameB l).length) = []
          · rw [he]; rfl
          · rw [parse_none he hc]; rfl
        · rw [crashPart, if_pos hs, if_neg ht, parse_frame l _ (by omega)]
          obtain ⟨m, hm, e⟩ := crash_parse keep torn n ls (i + 1) (fun x hx => h x (by simp [hx]))
          exact ⟨m + 1, by simp; omega, by rw [List.take_succ_cons, ← e]⟩
      · rw [crashPart, if_neg hs]
        refine ⟨0, by simp, ?_⟩
        rw [parse_none (by intro he; have := congrArg List.length he; rw [List.length_append, List.length_replicate, List.length_nil] at this; omega) (next_zero _ _ (by omega))]
        rfl
    · rw [if_neg hi]; exact ⟨0, by simp, rfl⟩
theorem lastS_zero : ∀ n, lastS 0 n = 0
  | 0 => rfl
  | n + 1 => by unfold lastS stays; rw [if_neg (by simp), lastS_zero n]
theorem crash_data (keep : Nat) (torn : Int) (d : List UInt8) (ls : List (List UInt8)) (hd : (parse d).2 = true) (h : ∀ l ∈ ls, l.length ≤ 16384) : ∃ m, m ≤ ls.length ∧ (parse (d ++ crashB keep torn (ls.map frameB))).1 = (parse d).1 ++ ls.take m ∧ (keep = 0 → m = 0) := by
  by_cases hk : keep = 0
  · refine ⟨0, Nat.zero_le _, ?_, fun _ => rfl⟩
    subst hk
    unfold crashB
    rw [lastS_zero]
    simp [crashTo]
  suffices hs : ∃ m, m ≤ ls.length ∧ (parse (d ++ crashB keep torn (ls.map frameB))).1 = (parse d).1 ++ ls.take m by
    obtain ⟨m, h1, h2⟩ := hs; exact ⟨m, h1, h2, fun h => absurd h hk⟩
  obtain ⟨m, hm, e⟩ := crash_parse keep torn (lastS keep (ls.map frameB).length) ls 0 h
  refine ⟨m, hm, ?_⟩
  rw [crashB_L, parse_app d.length d _ (Nat.le_refl _) hd, e]
def recsOf (ds : List (List UInt8)) : List (List UInt8) := (ds.map fun d => (parse d).1).flatten
theorem recsOf_app (a b : List (List UInt8)) : recsOf (a ++ b) = recsOf a ++ recsOf b := by simp [recsOf]
def BaseAt (c : Cont) (t : Nat) (bs : List UInt8) : Prop := (t = 0 ∧ bs = [] ∧ c baseK = none) ∨ (0 < t ∧ c baseK = some (keptF t bs, []))
structure Side (c : Cont) (t : Nat) (bs : List UInt8) : Prop where
  base : BaseAt c t bs
  new : c newK = none
  other : ∀ t' p, t' ≠ t → c (pname t' p) = none
  len : bs.length ≤ 65536
  small : t < 100000
def filesOf (init : List (List UInt8)) (cur : Option (List UInt8 × List (List UInt8))) (p : Nat) : Option (List UInt8 × List (List UInt8)) :=
  if p < init.length then some (init.getD p [], []) else if p = init.length then cur.map (fun q => (q.1, q.2.map frameB)) else none
def curRecs : Option (List UInt8 × List (List UInt8)) → List (List UInt8)
  | none => []
  | some q => (parse q.1).1 ++ q.2
def curSyn : Option (List UInt8 × List (List UInt8)) → Nat
  | none => 0
  | some q => (parse q.1).1.length
/-- A disk and the journal that is open on it; syn records are safe. -/
def Jok (c : Cont) (s : JS) (syn : Nat) : Prop :=
  Side c s.turn s.base ∧ s.full = false ∧ s.part < 100000 ∧ ∃ init cur, init.length = s.part ∧ (∀ p, c (pname s.turn p) = filesOf init cur p) ∧ s.wr = cur.isSome ∧ s.recs = recsOf init ++ curRecs cur ∧ (∀ q, cur = some q → (parse q.1).2 = true ∧ ∀ l ∈ q.2, l.length ≤ 16384) ∧ syn = (recsOf init).length + curSyn cur
/-- A disk behind a crash: n files that tell the records rs. -/
def Dok (c : Cont) (t : Nat) (bs : List UInt8) (rs : List (List UInt8)) (n : Nat) : Prop :=
  Side c t bs ∧ ∃ ds : List (List UInt8), ds.length = n ∧ (∀ p, c (pname t p) = (ds[p]?).map (fun d => (d, []))) ∧ rs = recsOf ds
theorem dok_new : Dok (fun _ => none) 0 [] [] 0 := ⟨⟨.inl ⟨rfl, rfl, rfl⟩, rfl, fun _ _ _ => rfl, by simp, by omega⟩, [], rfl, fun p => by simp, rfl⟩
theorem crashB_nil (keep : Nat) (torn : Int) : crashB keep torn [] = [] := rfl
theorem side_fell {c : Cont} {t : Nat} {bs : List UInt8} (keep : Nat) (torn : Int) (h : Side c t bs) : Side (fellC keep torn c) t bs := by
  refine ⟨?_, by unfold fellC; rw [h.new]; rfl, fun t' p ht => by unfold fellC; rw [h.other t' p ht]; rfl, h.len, h.small⟩
  rcases h.base with ⟨h1, h2, h3⟩ | ⟨h1, h2⟩
  · exact .inl ⟨h1, h2, by unfold fellC; rw [h3]; rfl⟩
  · exact .inr ⟨h1, by unfold fellC; rw [h2]; simp [crashB_nil]⟩
theorem jok_fell {c : Cont} {s : JS} {syn : Nat} (keep : Nat) (torn : Int) (h : Jok c s syn) : ∃ m n, syn ≤ m ∧ m ≤ s.recs.length ∧ n ≤ s.part + 1 ∧ (keep = 0 → m = syn) ∧ Dok (fellC keep torn c) s.turn s.base (s.recs.take m) n := by
  obtain ⟨hS, hf, hp, init, cur, hi, hfiles, hw, hr, hcur, hsyn⟩ := h
  have hfell : ∀ p, p < init.length → fellC keep torn c (pname s.turn p) = some (init.getD p [], []) := fun p hlt => by
    unfold fellC; rw [hfiles p, filesOf, if_pos hlt]; simp [crashB_nil]
  cases cur with
  | none =>
    refine ⟨s.recs.length, init.length, ?_, Nat.le_refl _, by omega, fun _ => by rw [hr, hsyn]; simp [curSyn, curRecs], side_fell keep torn hS, init, rfl, fun p => ?_, ?_⟩
    · rw [hr, hsyn]; simp [curSyn, curRecs]
    · rcases Nat.lt_or_ge p init.length with hlt | hge
      · rw [hfell p hlt]; simp [List.getD, List.getElem?_eq_getElem hlt]
      · unfold fellC; rw [hfiles p, filesOf, if_neg (by omega)]
        rw [List.getElem?_eq_none hge]; split <;> rfl
    · rw [List.take_of_length_le (Nat.le_refl _), hr]; simp [curRecs]
  | some q =>
    obtain ⟨d, ls⟩ := q
    obtain ⟨hcl, hlen⟩ := hcur _ rfl
    obtain ⟨m, hm, e, hk0⟩ := crash_data keep torn d ls hcl hlen
    refine ⟨(recsOf init).length + (parse d).1.length + m, init.length + 1, ?_, ?_, by omega, fun h => by rw [hk0 h, hsyn]; rfl, side_fell keep torn hS, init ++ [d ++ crashB keep torn (ls.map frameB)], by simp, fun p => ?_, ?_⟩
    · simp only [curSyn] at hsyn; omega
    · rw [hr]; simp [curRecs]; omega
    · rcases Nat.lt_trichotomy p init.length with hlt | heq | hgt
      · rw [hfell p hlt, List.getElem?_append_left hlt]; simp [List.getD, List.getElem?_eq_getElem hlt]
      · unfold fellC; rw [hfiles p, filesOf, if_neg (by omega), if_pos heq, heq]; simp
      · unfold fellC; rw [hfiles p, filesOf, if_neg (by omega), if_neg (by omega), List.getElem?_eq_none (by simp; omega)]; rfl
    · rw [recsOf_app, hr, curRecs]
      have e2 : recsOf [d ++ crashB keep torn (ls.map frameB)] = (parse d).1 ++ ls.take m := by simp [recsOf, e]
      rw [e2, ← List.append_assoc, ← List.append_assoc]
      rw [show (recsOf init).length + (parse d).1.length + m = (recsOf init ++ (parse d).1).length + m by simp, List.take_length_add_append]

end Go.Proofs.YthdpebagkfloaaaDoor

