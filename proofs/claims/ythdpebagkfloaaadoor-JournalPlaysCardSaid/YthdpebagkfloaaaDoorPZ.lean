/- journal, the plain law: Open, Add, Sync, Keep keep to it. -/
import Derived.Test.YthdpebagkfloaaaDoorPY
namespace Go.Proofs.YthdpebagkfloaaaDoor
open Go Go.RowKit SL
set_option linter.unusedVariables false
set_option linter.unusedSimpArgs false
set_option maxRecDepth 100000
theorem sync_same {c : Cont} {k : ByteArray} (h : c k = none ∨ ∃ d, c k = some (d, [])) : syncC c k = c := by
  unfold syncC
  rcases h with h | ⟨d, h⟩
  · rw [h]
  · rw [h]; funext i; dsimp only; unfold Cont.set
    by_cases hi : i = k
    · rw [if_pos hi, hi, h]; simp
    · rw [if_neg hi]
theorem swept_same {c : Cont} {t : Nat} (h : c newK = none) : swept c t 0 = c := by
  unfold swept; split <;> (try unfold tidyC) <;> exact Cont.set_none h
def rdJ (lives t : Nat) (bs : List UInt8) (ds : List (List UInt8)) : JS :=
  ⟨lives, t, (match ds.getLast? with | none => 0 | some d => if (parse d).2 = true then ds.length - 1 else ds.length), (match ds.getLast? with | none => false | some d => (parse d).2), bs, recsOf ds, false⟩
theorem parts_same {c : Cont} {t : Nat} {ds : List (List UInt8)} (h : ∀ p, c (pname t p) = (ds[p]?).map (fun d => (d, []))) : ∀ n, partsC c t n = c
  | 0 => rfl
  | n + 1 => by
    unfold partsC
    rw [parts_same h n]
    refine sync_same ?_
    rw [h n]
    cases ds[n]? with
    | none => exact .inl rfl
    | some d => exact .inr ⟨d, rfl⟩
theorem partsJ_rd {c : Cont} {t : Nat} {ds : List (List UInt8)} (lives : Nat) (bs : List UInt8) (h : ∀ p, c (pname t p) = (ds[p]?).map (fun d => (d, []))) : ∀ n, n ≤ ds.length → partsJ c t (freshJ lives t bs) n = rdJ lives t bs (ds.take n)
  | 0, _ => rfl
  | n + 1, hn => by
    unfold partsJ
    rw [partsJ_rd lives bs h n (by omega), parts_same h n]
    have hb : bytesC c (pname t n) = ds[n] := by unfold bytesC; rw [h n, List.getElem?_eq_getElem (by omega)]; simp
    rw [hb, List.take_succ_eq_append_getElem (by omega)]
    unfold readJ rdJ
    rw [recsOf_app]
    simp only [List.getLast?_append, List.getLast?_singleton, Option.some_or, List.length_append, List.length_take, List.length_singleton]
    rw [Nat.min_eq_left (by omega)]
    simp [recsOf]
theorem base_is {c : Cont} {t : Nat} {bs : List UInt8} (h : BaseAt c t bs) (hl : bs.length ≤ 65536) (ht : t < 100000) : BaseIs c t bs := by
  rcases h with ⟨h1, h2, h3⟩ | ⟨h1, h2⟩
  · exact .inl ⟨h3, h1, h2⟩
  · have h8 := bigB_len t 8
    have hn := next_frame (bigB t 8 ++ bs) [] (by simp [h8]; omega)
    rw [List.append_nil] at hn
    refine .inr ⟨by rw [h2]; rfl, bigB t 8 ++ bs, ?_, by simp [h8], ?_, ?_⟩
    · unfold bytesC; rw [h2]; simp only [List.flatten_nil, List.append_nil]; exact hn
    · rw [List.take_append_of_le_length (by omega), List.take_of_length_le (by omega), ofBig_bigB, Nat.mod_eq_of_lt (by omega)]
    · rw [List.drop_append_of_le_length (by omega), List.drop_eq_nil_of_le (by omega)]; rfl
theorem recsOf_take_len (ds : List (List UInt8)) (p : Nat) : (recsOf (ds.take p)).length ≤ (recsOf ds).length := by
  conv => rhs; rw [← List.take_append_drop p ds]
  rw [recsOf_app, List.length_append]; omega
theorem files_last {c : Cont} {t : Nat} {ds : List (List UInt8)} (h : ∀ p, c (pname t p) = (ds[p]?).map (fun d => (d, []))) : ∀ p, c (pname t p) = filesOf ds none p := fun p => by
  rw [h p, filesOf]
  rcases Nat.lt_or_ge p ds.length with hlt | hge
  · rw [if_pos hlt, List.getElem?_eq_getElem hlt]; simp [List.getD, List.getElem?_eq_getElem hlt]
  · rw [if_neg (by omega), List.getElem?_eq_none hge]; split <;> rfl
theorem rdJ_ok {c : Cont} {t : Nat} {bs : List UInt8} {rs : List (List UInt8)} {n : Nat} (lives : Nat) (h : Dok c t bs rs n) (hn : n < 100000) :
    ∃ ds : List (List UInt8), ds.length = n ∧ (∀ p, c (pname t p) = (ds[p]?).map (fun d => (d, []))) ∧ rs = recsOf ds ∧ Jok c (rdJ lives t bs ds) rs.length ∧ (rdJ lives t bs ds).part ≤ n := by
  obtain ⟨hS, ds, hl, hf, hr⟩ := h
  refine ⟨ds, hl, hf, hr, ?_⟩
  rcases List.eq_nil_or_concat ds with rfl | ⟨ds', d, rfl⟩
  · refine ⟨⟨hS, rfl, by simp [rdJ], [], none, rfl, files_last hf, rfl, by simp [rdJ, recsOf, curRecs], by simp, by rw [hr]; simp [recsOf, curSyn]⟩, by simp [rdJ]⟩
  · have hgl : (ds' ++ [d]).getLast? = some d := by simp
    rw [List.concat_eq_append] at *
    have hlen : ds'.length + 1 = n := by simpa using hl
    by_cases hc : (parse d).2 = true
    · have hp : (rdJ lives t bs (ds' ++ [d])).part = ds'.length := by simp only [rdJ, hgl]; rw [if_pos hc]; simp
      refine ⟨⟨hS, rfl, by omega, ds', some (d, []), hp.symm, fun p => ?_, ?_, ?_, ?_, ?_⟩, by omega⟩
      · show c (pname t p) = _
        rw [hf p, filesOf]
        rcases Nat.lt_trichotomy p ds'.length with h1 | h1 | h1
        · rw [if_pos h1, List.getElem?_append_left h1, List.getElem?_eq_getElem h1]; simp [List.getD, List.getElem?_eq_getElem h1]
        · rw [if_neg (by omega), if_pos h1, h1]; simp
        · rw [if_neg (by omega), if_neg (by omega), List.getElem?_eq_none (by simp; omega)]; rfl
      · simp only [rdJ, hgl]; exact hc
      · show recsOf _ = _
        rw [recsOf_app]; simp [recsOf, curRecs]
      · intro q e; cases e; exact ⟨hc, by simp⟩
      · rw [hr, recsOf_app]; simp [recsOf, curSyn]
    · have hp : (rdJ lives t bs (ds' ++ [d])).part = ds'.length + 1 := by simp only [rdJ, hgl]; rw [if_neg hc]; simp
      refine ⟨⟨hS, rfl, by omega, ds' ++ [d], none, by rw [hp]; simp, files_last hf, ?_, ?_, by simp, ?_⟩, by omega⟩
      · simp only [rdJ, hgl]; simpa using hc
      · show recsOf _ = _; simp [curRecs]
      · rw [hr]; simp [curSyn]
theorem dok_open {c : Cont} {t : Nat} {bs : List UInt8} {rs : List (List UInt8)} {n : Nat} (lives : Nat) (h : Dok c t bs rs n) (hn : n < 100000) (hrl : rs.length ≤ 1048576) :
    Openable c lives t bs 0 n ∧ ∃ s, partsJ (swept c t 0) t (freshJ lives t bs) n = s ∧ partsC (swept c t 0) t n = c ∧ Jok c s rs.length ∧ s.recs = rs ∧ s.base = bs ∧ s.turn = t ∧ s.part ≤ n ∧ s.lives = lives := by
  obtain ⟨ds, hl, hf, hr, hJ, hp⟩ := rdJ_ok lives h hn
  have hS := h.1
  have hsw : swept c t 0 = c := swept_same hS.new
  have hst := hS.small
  refine ⟨⟨base_is hS.base hS.len hS.small, by omega, by omega, by omega, fun h0 p hp => pname_good (by omega) (by omega), fun _ p hp => by omega, fun h0 => ?_, fun p hp => pname_good (by omega) (by omega), fun p hp => ?_, ?_, fun p hp => ?_⟩, rdJ lives t bs ds, ?_, ?_, hJ, hr.symm, rfl, rfl, hp, rfl⟩
  · show (c.set newK none) _ = none
    rw [Cont.set_none hS.new]; exact hS.other _ _ (by omega)
  · rw [hsw, parts_same hf, hf p, List.getElem?_eq_getElem (by omega)]; rfl
  · rw [hsw, parts_same hf, hf n, List.getElem?_eq_none (by omega)]; rfl
  · rw [hsw, partsJ_rd lives bs hf p (by omega)]
    show (recsOf _).length ≤ _
    have := recsOf_take_len ds p
    rw [← hr] at this; omega
  · rw [hsw, partsJ_rd lives bs hf n (by omega), List.take_of_length_le (by omega)]
  · rw [hsw, parts_same hf]
theorem addC_other {k i : ByteArray} (h : i ≠ k) : ∀ (ls : List (List UInt8)) (c : Cont), addC c k ls i = c i
  | [], c => rfl
  | l :: r, c => by unfold addC; rw [addC_other h r, Cont.set_ne _ _ h]
theorem addC_some {k : ByteArray} : ∀ (ls : List (List UInt8)) (c : Cont) (d : List UInt8) (ps : List (List UInt8)), c k = some (d, ps) → addC c k ls k = some (d, ps ++ ls.map frameB)
  | [], c, d, ps, h => by simpa [addC] using h
  | l :: r, c, d, ps, h => by
    unfold addC
    rw [addC_some r _ d (ps ++ [frameB l]) (by rw [Cont.set_same, h]; rfl)]
    simp
theorem addC_none {k : ByteArray} {l : List UInt8} {r : List (List UInt8)} {c : Cont} (h : c k = none) : addC c k (l :: r) k = some ([], (l :: r).map frameB) := by
  unfold addC
  rw [addC_some r _ [] [frameB l] (by rw [Cont.set_same, h]; rfl)]
  rfl
theorem side_other {c c' : Cont} {t : Nat} {bs : List UInt8} (h : Side c t bs) (hc : ∀ k, (∀ p, k ≠ pname t p) → c' k = c k) : Side c' t bs := by
  refine ⟨?_, by rw [hc _ (fun p => (pname_new t p).symm)]; exact h.new, fun t' p ht => by rw [hc _ (fun p' e => ht (pname_inj e).1)]; exact h.other t' p ht, h.len, h.small⟩
  have := hc baseK (fun p => (pname_base t p).symm)
  unfold BaseAt; rw [this]; exact h.base
theorem filesOf_at (init : List (List UInt8)) (cur : Option (List UInt8 × List (List UInt8))) : filesOf init cur init.length = cur.map (fun q => (q.1, q.2.map frameB)) := by unfold filesOf; rw [if_neg (by omega), if_pos rfl]
theorem filesOf_ne {init : List (List UInt8)} (cur cur' : Option (List UInt8 × List (List UInt8))) {p : Nat} (h : p ≠ init.length) : filesOf init cur p = filesOf init cur' p := by
  unfold filesOf; split
  · rfl
  · simp [h]
theorem parse_frames0 {ls : List (List UInt8)} (h : ∀ l ∈ ls, l.length ≤ 16384) : parse (ls.map frameB).flatten = (ls, true) := by
  have := parse_frames [] ls (fun l hl => by have := h l hl; omega)
  rw [List.append_nil] at this
  rw [this, parse_nil]; simp
theorem jok_add {c : Cont} {s : JS} {syn : Nat} (h : Jok c s syn) (ls : List (List UInt8)) (hls : ∀ l ∈ ls, l.length ≤ 16384) : Jok (addC c (pname s.turn s.part) ls) (addJ s ls) syn := by
  obtain ⟨hS, hf, hp, init, cur, hi, hfiles, hw, hr, hcur, hsyn⟩ := h
  have hS' : Side (addC c (pname s.turn s.part) ls) s.turn s.base := side_other hS (fun k hk => addC_other (hk _) ls c)
  have hat := hfiles s.part
  rw [← hi, filesOf_at, hi] at hat
  have hne : ∀ cur' p, p ≠ s.part → addC c (pname s.turn s.part) ls (pname s.turn p) = filesOf init cur' p := fun cur' p hpn => by
    rw [addC_other (fun e => hpn (pname_inj e).2), hfiles p]; exact filesOf_ne _ _ (by omega)
  cases cur with
  | some q =>
    obtain ⟨d, l0⟩ := q
    refine ⟨hS', hf, hp, init, some (d, l0 ++ ls), hi, fun p => ?_, ?_, ?_, ?_, ?_⟩
    · by_cases hpn : p = s.part
      · subst hpn
        show addC c (pname s.turn s.part) ls (pname s.turn s.part) = _
        rw [addC_some ls c d (l0.map frameB) hat]
        conv => rhs; rw [← hi]
        rw [filesOf_at]; simp
      · exact hne _ p hpn
    · show (s.wr || _) = _; rw [hw]; rfl
    · show s.recs ++ ls = _; rw [hr]; simp [curRecs]
    · intro q e; cases e
      have := hcur _ rfl
      exact ⟨this.1, fun l hl => by rcases List.mem_append.1 hl with hl | hl; exact this.2 l hl; exact hls l hl⟩
    · exact hsyn
  | none =>
    cases ls with
    | nil => exact ⟨hS', hf, hp, init, none, hi, hfiles, by show (s.wr || false) = _; rw [hw]; rfl, by show s.recs ++ [] = _; rw [hr]; simp, hcur, hsyn⟩
    | cons l r =>
      refine ⟨hS', hf, hp, init, some ([], l :: r), hi, fun p => ?_, ?_, ?_, ?_, ?_⟩
      · by_cases hpn : p = s.part
        · subst hpn
          show addC c (pname s.turn s.part) (l :: r) (pname s.turn s.part) = _
          rw [addC_none hat]
          conv => rhs; rw [← hi]
          rw [filesOf_at]; rfl
        · exact hne _ p hpn
      · show (s.wr || _) = _; simp
      · show s.recs ++ (l :: r) = _; rw [hr]; simp [curRecs, parse_nil]
      · intro q e; cases e; exact ⟨rfl, hls⟩
      · simpa [curSyn, parse_nil] using hsyn
theorem jok_wr {c : Cont} {s : JS} {syn : Nat} (h : Jok c s syn) : s.wr = true → (c (pname s.turn s.part)).isSome = true := by
  obtain ⟨hS, hf, hp, init, cur, hi, hfiles, hw, hr, hcur, hsyn⟩ := h
  intro hwr
  rw [hfiles, ← hi, filesOf_at]
  cases cur with
  | none => rw [hwr] at hw; cases hw
  | some q => rfl
theorem jok_sync {c : Cont} {s : JS} {syn : Nat} (h : Jok c s syn) : Jok (if s.wr = true then syncC c (pname s.turn s.part) else c) s s.recs.length := by
  obtain ⟨hS, hf, hp, init, cur, hi, hfiles, hw, hr, hcur, hsyn⟩ := h
  cases cur with
  | none =>
    rw [if_neg (by rw [hw]; simp)]
    exact ⟨hS, hf, hp, init, none, hi, hfiles, hw, hr, hcur, by rw [hr]; simp [curRecs, curSyn]⟩
  | some q =>
    obtain ⟨d, ls⟩ := q
    rw [if_pos (by rw [hw]; rfl)]
    obtain ⟨hcl, hlen⟩ := hcur _ rfl
    have hat := hfiles s.part
    rw [← hi, filesOf_at, hi] at hat
    have hsc : syncC c (pname s.turn s.part) = c.set (pname s.turn s.part) (some (d ++ (ls.map frameB).flatten, [])) := by unfold syncC; rw [hat]; rfl
    have hpa : parse (d ++ (ls.map frameB).flatten) = ((parse d).1 ++ ls, true) := by
      rw [parse_app d.length d _ (Nat.le_refl _) hcl, parse_frames0 hlen]
    rw [hsc]
    refine ⟨side_other hS (fun k hk => Cont.set_ne _ _ (hk _)), hf, hp, init, some (d ++ (ls.map frameB).flatten, []), hi, fun p => ?_, hw, ?_, ?_, ?_⟩
    · by_cases hpn : p = s.part
      · subst hpn
        rw [Cont.set_same]
        conv => rhs; rw [← hi]
        rw [filesOf_at]; rfl
      · rw [Cont.set_ne _ _ (fun e => hpn (pname_inj e).2), hfiles p]; exact filesOf_ne _ _ (by omega)
    · rw [hr]; simp [curRecs, hpa]
    · intro q e; cases e; exact ⟨by rw [hpa], by simp⟩
    · rw [hr]; simp [curRecs, curSyn, hpa]
theorem tidyC_at (c : Cont) (t p : Nat) : ∀ n, tidyC c t n (pname t p) = if p < n then none else c (pname t p)
  | 0 => by simp [tidyC]
  | n + 1 => by
    unfold tidyC
    by_cases h : p = n
    · subst h; rw [Cont.set_same, if_pos (by omega)]
    · rw [Cont.set_ne _ _ (fun e => h (pname_inj e).2), tidyC_at c t p n]
      by_cases h1 : p < n
      · rw [if_pos h1, if_pos (by omega)]
      · rw [if_neg h1, if_neg (by omega)]
theorem tidyC_ne (c : Cont) (t : Nat) {k : ByteArray} (h : ∀ p, k ≠ pname t p) : ∀ n, tidyC c t n k = c k
  | 0 => rfl
  | n + 1 => by unfold tidyC; rw [Cont.set_ne _ _ (h n), tidyC_ne c t h n]
theorem jok_keep {c : Cont} {s : JS} {syn : Nat} (h : Jok c s syn) (bs : List UInt8) (hb : bs.length ≤ 65536) (ht : s.turn + 1 < 100000) :
    c newK = none ∧ ∃ n, n ≤ s.part + 1 ∧ (∀ p, p < n → (tidyC (keptC c (s.turn + 1) bs) s.turn p (pname s.turn p)).isSome = true) ∧ tidyC (keptC c (s.turn + 1) bs) s.turn n (pname s.turn n) = none ∧ Jok (tidyC (keptC c (s.turn + 1) bs) s.turn n) (keptJ s bs) 0 := by
  obtain ⟨hS, hf, hp, init, cur, hi, hfiles, hw, hr, hcur, hsyn⟩ := h
  have hk : ∀ t p, keptC c (s.turn + 1) bs (pname t p) = c (pname t p) := fun t p => Cont.set_ne _ _ (pname_base t p)
  have key : ∀ n, (∀ p, p < n → (filesOf init cur p).isSome = true) → filesOf init cur n = none → (∀ p, n ≤ p → filesOf init cur p = none) → (∀ p, p < n → (tidyC (keptC c (s.turn + 1) bs) s.turn p (pname s.turn p)).isSome = true) ∧ tidyC (keptC c (s.turn + 1) bs) s.turn n (pname s.turn n) = none ∧ Jok (tidyC (keptC c (s.turn + 1) bs) s.turn n) (keptJ s bs) 0 := by
    intro n h1 h2 h3
    refine ⟨fun p hpn => ?_, ?_, ?_⟩
    · rw [tidyC_at, if_neg (by omega), hk, hfiles]; exact h1 p hpn
    · rw [tidyC_at, if_neg (by omega), hk, hfiles]; exact h2
    · refine ⟨⟨.inr ⟨by show 0 < s.turn + 1; omega, ?_⟩, ?_, fun t' p ht' => ?_, hb, ht⟩, hf, by show 0 < 100000; omega, [], none, rfl, fun p => ?_, rfl, rfl, by simp, rfl⟩
      · rw [tidyC_ne _ _ (fun p => (pname_base s.turn p).symm)]; exact Cont.set_same _ _ _
      · rw [tidyC_ne _ _ (fun p => (pname_new s.turn p).symm)]; exact (Cont.set_ne _ _ new_ne_base).trans hS.new
      · by_cases htt : t' = s.turn
        · subst htt
          rw [tidyC_at]
          split
          · rfl
          · rw [hk, hfiles]; exact h3 p (by omega)
        · rw [tidyC_ne _ _ (fun p' e => htt (pname_inj e).1), hk]; exact hS.other _ _ htt
      · show tidyC _ _ _ (pname (s.turn + 1) p) = _
        rw [tidyC_ne _ _ (fun p' e => by have := (pname_inj e).1; omega), hk, hS.other _ _ (by omega)]
        unfold filesOf; split
        · rename_i h; simp at h
        · split <;> rfl
  refine ⟨hS.new, ?_⟩
  cases cur with
  | none =>
    refine ⟨init.length, by omega, key init.length (fun p h => by unfold filesOf; rw [if_pos h]; rfl) (by rw [filesOf_at]; rfl) (fun p h => ?_)⟩
    unfold filesOf; rw [if_neg (by omega)]; split <;> rfl
  | some q =>
    refine ⟨init.length + 1, by omega, key (init.length + 1) (fun p h => ?_) ?_ (fun p h => ?_)⟩
    · unfold filesOf; split
      · rfl
      · rw [if_pos (by omega)]; rfl
    · unfold filesOf; rw [if_neg (by omega), if_neg (by omega)]
    · unfold filesOf; rw [if_neg (by omega), if_neg (by omega)]

end Go.Proofs.YthdpebagkfloaaaDoor

