/- sha: the sum itself. -/
import Derived.Test.YthdpebagkfloaaaDoorPE
namespace Go.Proofs.YthdpebagkfloaaaDoor
open Go Go.RowKit SL
set_option linter.unusedVariables false
set_option linter.unusedSimpArgs false
set_option maxRecDepth 100000
def absorbN : Nat → List UInt32 → List UInt8 → List UInt32 × List UInt8
  | 0, h, l => (h, l)
  | n + 1, h, l => if 64 ≤ l.length then absorbN n (mixB h (l.take 64)) (l.drop 64) else (h, l)
def absorb (h : List UInt32) (l : List UInt8) : List UInt32 × List UInt8 := absorbN (l.length / 64) h l
theorem absorb_step (h : List UInt32) (l : List UInt8) (hl : 64 ≤ l.length) : absorb h l = absorb (mixB h (l.take 64)) (l.drop 64) := by
  unfold absorb
  rw [show l.length / 64 = (l.drop 64).length / 64 + 1 by simp; omega, absorbN, if_pos hl]
theorem absorb_short (h : List UInt32) (l : List UInt8) (hl : l.length < 64) : absorb h l = (h, l) := by
  unfold absorb
  rw [show l.length / 64 = 0 by omega]; rfl
theorem absorb_more (l m : List UInt8) (h : List UInt32) : absorb h (l ++ m) = absorb (absorb h l).1 ((absorb h l).2 ++ m) := by
  suffices H : ∀ n, ∀ (l : List UInt8) (h : List UInt32), l.length = n → absorb h (l ++ m) = absorb (absorb h l).1 ((absorb h l).2 ++ m) from H _ l h rfl
  intro n
  induction n using Nat.strongRecOn with
  | _ n ih =>
    intro l h hn
    by_cases hl : 64 ≤ l.length
    · rw [absorb_step h l hl, absorb_step h (l ++ m) (by simp; omega)]
      rw [List.take_append_of_le_length hl, List.drop_append_of_le_length hl]
      exact ih (l.drop 64).length (by simp; omega) _ _ rfl
    · rw [absorb_short h l (by omega)]
theorem absorb_len (h : List UInt32) (l : List UInt8) (hh : h.length = 8) : (absorb h l).1.length = 8 ∧ (absorb h l).2.length < 64 := by
  suffices H : ∀ n, ∀ (l : List UInt8) (h : List UInt32), h.length = 8 → l.length = n → (absorb h l).1.length = 8 ∧ (absorb h l).2.length < 64 from H _ l h hh rfl
  intro n
  induction n using Nat.strongRecOn with
  | _ n ih =>
    intro l h hh hn
    by_cases hl : 64 ≤ l.length
    · rw [absorb_step h l hl]
      exact ih (l.drop 64).length (by simp; omega) _ _ (mixB_len _ _ hh) rfl
    · rw [absorb_short h l (by omega)]; exact ⟨hh, Nat.lt_of_not_le hl⟩
def padZ (n : Nat) : Nat := (119 - n % 64) % 64
def shaPad (n : Nat) : List UInt8 := 128 :: List.replicate (padZ n) 0 ++ bigB (n * 8) 8
def shaWords (m : List UInt8) : List UInt32 := (absorb shaStart (m ++ shaPad m.length)).1
def wordsB (h : List UInt32) : List UInt8 := h.flatMap fun w => bigB w.toNat 4
/-- SHA-256. -/
def sha (m : List UInt8) : List UInt8 := wordsB (shaWords m)
theorem wordsB_len (h : List UInt32) : (wordsB h).length = 4 * h.length := by
  induction h with
  | nil => rfl
  | cons x h ih => simp only [wordsB, List.flatMap_cons, List.length_append, bigB_len, List.length_cons] at ih ⊢; omega
theorem sha_len (m : List UInt8) : (sha m).length = 32 := by
  rw [sha, wordsB_len, shaWords, (absorb_len _ _ rfl).1]

def sumCells (h : List UInt32) (rv : Value) (n : Nat) : List Value := h.map w32v ++ (shaK.map w32v ++ [rv, .int .i64 n])
theorem sum_len (h : List UInt32) (rv : Value) (n : Nat) (hh : h.length = 8) : (sumCells h rv n).length = 74 := by simp [sumCells, hh, shaK_len]
theorem sum_72 (h : List UInt32) (rv : Value) (n : Nat) (hh : h.length = 8) : (sumCells h rv n)[72]? = some rv := by
  unfold sumCells
  rw [List.getElem?_append_right (by simp [hh]), List.getElem?_append_right (by simp [hh, shaK_len])]; simp [hh, shaK_len]
theorem sum_73 (h : List UInt32) (rv : Value) (n : Nat) (hh : h.length = 8) : (sumCells h rv n)[73]? = some (.int .i64 n) := by
  unfold sumCells
  rw [List.getElem?_append_right (by simp [hh]), List.getElem?_append_right (by simp [hh, shaK_len])]; simp [hh, shaK_len]
theorem sum_h (h : List UInt32) (rv : Value) (n : Nat) (hh : h.length = 8) : ((sumCells h rv n).drop 0).take (h.map w32v).length = h.map w32v := by
  unfold sumCells; simp
theorem sum_k (h : List UInt32) (rv : Value) (n : Nat) (hh : h.length = 8) : ((sumCells h rv n).drop 8).take (shaK.map w32v).length = shaK.map w32v := by
  unfold sumCells
  rw [List.drop_append_of_le_length (by simp [hh]), List.drop_of_length_le (by simp [hh]), List.nil_append, List.take_append_of_le_length (Nat.le_refl _), List.take_of_length_le (Nat.le_refl _)]
theorem sum_ki (h : List UInt32) (rv : Value) (n : Nat) (hh : h.length = 8) (i : Nat) (hi : i < 64) : (sumCells h rv n)[8 + i]? = some (w32v (shaK.getD i 0)) := by
  unfold sumCells
  rw [List.getElem?_append_right (by simp [hh]), List.getElem?_append_left (by simp [hh, shaK_len]; omega), show 8 + i - (h.map w32v).length = i by simp [hh]]
  exact map_get shaK i (by rw [shaK_len]; exact hi)
theorem sum_set73 (h : List UInt32) (rv : Value) (n m : Nat) (hh : h.length = 8) : (sumCells h rv n).set 73 (.int .i64 m) = sumCells h rv m := by
  unfold sumCells
  rw [List.set_append_right _ _ (by simp [hh]), List.set_append_right _ _ (by simp [hh, shaK_len])]; simp [hh, shaK_len]
theorem sum_set72 (h : List UInt32) (rv rv' : Value) (n : Nat) (hh : h.length = 8) : (sumCells h rv n).set 72 rv' = sumCells h rv' n := by
  unfold sumCells
  rw [List.set_append_right _ _ (by simp [hh]), List.set_append_right _ _ (by simp [hh, shaK_len])]; simp [hh, shaK_len]
theorem sum_splice (h h' : List UInt32) (rv : Value) (n : Nat) (hh : h.length = 8) (hh' : h'.length = 8) : splice (sumCells h rv n) 0 (h'.map w32v) = sumCells h' rv n := by
  unfold sumCells splice
  simp only [List.take_zero, List.nil_append, Nat.zero_add, List.length_map, hh']
  rw [List.drop_append_of_le_length (by simp [hh]), List.drop_of_length_le (by simp [hh]), List.nil_append]
theorem fill_sum (a b : List Value) (x y : Value) (ha : a.length = 8) (hb : b.length = 64) : fillL (fun (i : Nat) => ([(0, 8), (8, 64), (72, 1), (73, 1)] : List (Nat × Nat))[i]?) (List.replicate 72 (Value.int .u32 0) ++ [x, y]) [(0, .agg a.toArray), (1, .agg b.toArray)] = some (a ++ (b ++ [x, y])) := by
  simp [fillL, Value.cells, ha, hb, Nat.ble]
  rw [List.drop_append, List.drop_of_length_le (by omega)]; simp [ha]
/-- A sum: its state, the bytes that wait, how many came. -/
def SumAt (I : IM) (ah0 ah : AH) (s : Nat) (h : List UInt32) (rest : List UInt8) (n : Nat) : Prop :=
  ah0 s = none ∧ h.length = 8 ∧ ∃ rv, OwnB I (ah0.set s (.cells (sumCells h rv n))) ah rv rest
theorem SumAt.mono {I J : IM} {ah0 ah : AH} {s : Nat} {h : List UInt32} {rest : List UInt8} {n : Nat} (k : SumAt I ah0 ah s h rest n) (hI : IM.le I J) : SumAt J ah0 ah s h rest n := by
  obtain ⟨h1, h2, rv, h3⟩ := k
  exact ⟨h1, h2, rv, Own.mono h3 hI⟩
theorem SumAt.base {I : IM} {ah0 ah : AH} {s : Nat} {h : List UInt32} {rest : List UInt8} {n : Nat} (k : SumAt I ah0 ah s h rest n) : ∀ b x, ah0 b = some x → ah b = some x := by
  obtain ⟨h1, h2, rv, h3⟩ := k
  exact fun b x e => Own.base h3 b x (by rw [AH.set_ne]; exact e; rintro rfl; rw [h1] at e; cases e)

theorem new_spec (w0 : World) (I : IM) (ah : AH) :
    SC P w0 n_sha_New [] I ah (fun v I' ah' => I = I' ∧ ∃ s, v = .pointer (some ⟨s, 0, none⟩) ∧ SumAt I' ah ah' s shaStart [] 0) := by
  refine SC_enter fn_sha_New rfl rfl (Nat.le_of_ble_eq_true rfl) ?_
  refine CW_seq ?_
  refine CW_region (l := [_]) ?_
  refine WL_val rfl (PE_assign rfl) ?_
  refine WL_nil ?_
  refine QA_seq ?_
  refine CW_seq ?_
  refine CW_region (l := [_, _, _, _, _]) ?_
  refine WL_op rfl (OE_call (l := []) E_sha_start rfl rfl (start_spec _ _ _)) ?_
  rintro _ I1_0 ah1_0 ⟨_, rfl, _, rfl, rfl, rfl⟩
  refine WL_op rfl (OE_call (l := []) E_sha_constants rfl rfl (constants_spec _ _ _)) ?_
  rintro _ I1_1 ah1_1 ⟨_, rfl, _, rfl, rfl, rfl⟩
  refine WL_val rfl (PE_buildS (vs := sumCells shaStart (.slice none 0 0) 0) ts_sha_Sum rfl (fill_sum _ _ _ _ rfl rfl)) ?_
  refine WL_op rfl (OE_box rfl rfl) ?_
  rintro _ I1_3 ah1_3 ⟨b1_3, rfl, rfl, rfl, hb1_3, hw1_3⟩
  refine WL_val rfl (PE_assign rfl) ?_
  refine WL_nil ?_
  refine QA_seq ?_
  refine CW_ret ?_
  refine QA_return (rs := [_]) rfl rfl (IM.le.refl _) (_) (fun _ _ h => h) ?_
  exact ⟨rfl, b1_3, rfl, hb1_3, rfl, _, Own.nil _ _ _⟩

theorem add_spec (w0 : World) (I : IM) (ah0 ah : AH) (s : Nat) (h : List UInt32) (rest : List UInt8) (n : Nat) (hs : SumAt I ah0 ah s h rest n) (v : Value) (l : List UInt8) (hv : BySl I v l) (hl : l.length ≤ 70368744177600) (hr : rest.length < 64) (hn : n ≤ 70368744177600) :
    SC P w0 n_sha_Sum_Add [.pointer (some ⟨s, 0, none⟩), v] I ah (fun v' I' ah' => SumAt I' ah0 ah' s (absorb h (rest ++ l)).1 (absorb h (rest ++ l)).2 (n + l.length)) := by
  obtain ⟨h0, hh, rv, ho⟩ := hs
  have hc := ho.base s _ (AH.set_same _ _ _)
  obtain ⟨va, vc, hve, _, _⟩ := SlI.form hv
  refine SC_enter fn_sha_Sum_Add rfl rfl (Nat.le_of_ble_eq_true rfl) ?_
  refine CW_seq ?_
  refine CW_region (l := [_, _, _, _, _, _, _, _, _, _]) ?_
  refine WL_val rfl (PE_move rfl) ?_
  refine WL_val rfl (PE_nilCheck rfl) ?_
  refine WL_val rfl (PE_fieldAddr fa_sha_Sum_3 rfl) ?_
  refine WL_val rfl (PE_load tc_int64 rfl (.own hc (sum_73 _ _ _ hh))) ?_
  refine WL_val rfl (PE_move rfl) ?_
  refine WL_val rfl (PE_len und_sl_uint8 (by rw [← hve]; rfl)) ?_
  refine WL_val rfl (PE_add (r := ((n + l.length : Nat) : Int)) rfl rfl (w64e (by push_cast; rfl) (by omega) (by omega))) ?_
  refine WL_val rfl (PE_nilCheck rfl) ?_
  refine WL_val rfl (PE_fieldAddr fa_sha_Sum_3 rfl) ?_
  refine WL_op rfl (OE_store tc_int64 rfl rfl rfl hc (by simp [sum_len _ _ _ hh])) ?_
  rintro _ I0_9 ah0_9 ⟨rfl, rfl, rfl⟩
  rw [sum_set73 _ _ _ _ hh]
  replace ho := Own.below (y := .cells (sumCells h rv (n + l.length))) ho (AH.set_same _ _ _)
  rw [AH.set_set] at ho
  replace hc := ho.base s _ (AH.set_same _ _ _)
  generalize ah.set s (.cells (sumCells h rv (n + l.length))) = ah1 at ho hc ⊢
  refine WL_nil ?_
  refine QA_seq ?_
  refine CW_seq ?_
  refine CW_region (l := [_, _, _, _, _, _, _, _, _, _]) ?_
  refine WL_val rfl (PE_move rfl) ?_
  refine WL_val rfl (PE_move rfl) ?_
  refine WL_val rfl (PE_nilCheck rfl) ?_
  refine WL_val rfl (PE_fieldAddr fa_sha_Sum_2 rfl) ?_
  refine WL_val rfl (PE_load tc_sl_uint8 rfl (.own hc (sum_72 _ _ _ hh))) ?_
  refine WL_val rfl (PE_move rfl) ?_
  refine WL_op rfl (OE_append (n := rest.length) (m := l.length) (vs := rest.map bv) (us := l.map bv) und_sl_uint8 ⟨_, und_sl_uint8⟩ te_uint8 rfl rfl rfl ho (hv.src _) (bvs_one _) (by decide) (by omega) (by omega)) ?_
  rintro _ I1_6 ah1_6 ⟨v1_6, rfl, hI1_6, hv1_6, hn1_6⟩
  refine WL_val rfl (PE_nilCheck rfl) ?_
  refine WL_val rfl (PE_fieldAddr fa_sha_Sum_2 rfl) ?_
  obtain ⟨a6, c6, rfl, _, _⟩ := SlI.form (Own.sl hv1_6)
  refine WL_op rfl (OE_store tc_sl_uint8 rfl rfl rfl (Own.base hv1_6 s _ (AH.set_same _ _ _)) (by simp [sum_len _ _ _ hh])) ?_
  rintro _ I1_9 ah1_9 ⟨rfl, rfl, rfl⟩
  rw [sum_set72 _ _ _ _ hh]
  have ho1 : OwnB I1_6 (ah0.set s (.cells (sumCells h (.slice a6 (rest.length + l.length) c6) (n + l.length)))) (ah1_6.set s (.cells (sumCells h (.slice a6 (rest.length + l.length) c6) (n + l.length)))) (.slice a6 (rest.length + l.length) c6) (rest ++ l) := by
    have := Own.below (y := .cells (sumCells h (.slice a6 (rest.length + l.length) c6) (n + l.length))) hv1_6 (AH.set_same _ _ _)
    rw [AH.set_set] at this
    exact OwnB.of this rfl
  generalize ah1_6.set s (.cells (sumCells h (.slice a6 (rest.length + l.length) c6) (n + l.length))) = ah2 at ho1 ⊢
  refine WL_nil ?_
  refine QA_seq ?_
  refine CW_block ?_
  refine CW_loop (fun k e I' ah' => ∃ h' r' rv', e = [(0, .pointer (some ⟨s, 0, none⟩))] ∧ IM.le I I' ∧ h'.length = 8 ∧ r'.length = k ∧ k ≤ (rest ++ l).length ∧ absorb h' r' = absorb h (rest ++ l) ∧ OwnB I' (ah0.set s (.cells (sumCells h' rv' (n + l.length)))) ah' rv' r') ((rest ++ l).length) (e0 := [(0, .pointer (some ⟨s, 0, none⟩))]) (⟨h, rest ++ l, _, rfl, hI1_6, hh, rfl, Nat.le_refl _, rfl, ho1⟩) (by repeat (first | exact .nil | refine .cons rfl ?_)) ?_
  rintro k e I3 ah3 ⟨h', r', rv', rfl, hI3, hh', hk, hkb, hab, ho'⟩
  have hc' := ho'.base s _ (AH.set_same _ _ _)
  obtain ⟨a', c', hrv, hc'1, _⟩ := SlI.form ho'.sl
  subst hrv
  simp only [List.length_append] at hkb
  refine CW_seq ?_
  refine CW_seq ?_
  refine CW_region (l := [_, _, _, _, _, _]) ?_
  refine WL_val rfl (PE_move rfl) ?_
  refine WL_val rfl (PE_nilCheck rfl) ?_
  refine WL_val rfl (PE_fieldAddr fa_sha_Sum_2 rfl) ?_
  refine WL_val rfl (PE_load tc_sl_uint8 rfl (.own hc' (sum_72 _ _ _ hh'))) ?_
  refine WL_val rfl (PE_len und_sl_uint8 rfl) ?_
  refine WL_val rfl (PE_geq rfl rfl rfl) ?_
  refine WL_nil ?_
  refine QA_seq ?_
  refine CW_cond rfl (fun c1 => ?_) (fun c1 => ?_)
  · have h64 : 64 ≤ r'.length := by simp at c1; omega
    refine CW_skip ?_
    refine QA_seq ?_
    refine CW_block ?_
    refine CW_seq ?_
    refine CW_drawS (l := [_, _, _, _, _, _, _, _, _, _, _, _, _, _, _, _, _]) 16 mixed ?_
    refine WA_take 0 rfl (by kernel_rfl) (by kernel_rfl) (by kernel_rfl) (by kernel_rfl) rfl (by kernel_rfl) rfl (IM.le.refl _) (fun _ _ h => h) (PE_move rfl) ?_
    refine WA_take 1 rfl (by kernel_rfl) (by kernel_rfl) (by kernel_rfl) (by kernel_rfl) rfl (by kernel_rfl) rfl (IM.le.refl _) (fun _ _ h => h) (PE_move rfl) ?_
    refine WA_take 2 rfl (by kernel_rfl) (by kernel_rfl) (by kernel_rfl) (by kernel_rfl) rfl (by kernel_rfl) rfl (IM.le.refl _) (fun _ _ h => h) (PE_nilCheck rfl) ?_
    refine WA_take 3 rfl (by kernel_rfl) (by kernel_rfl) (by kernel_rfl) (by kernel_rfl) rfl (by kernel_rfl) rfl (IM.le.refl _) (fun _ _ h => h) (PE_fieldAddr fa_sha_Sum_0 rfl) ?_
    refine WA_take 4 rfl (by kernel_rfl) (by kernel_rfl) (by kernel_rfl) (by kernel_rfl) rfl (by kernel_rfl) rfl (IM.le.refl _) (fun _ _ h => h) (PE_loadA (vs := h'.map w32v) ta_a8_uint32 rfl (by simp [hh']) (Cells.ownAt hc' (sum_h _ _ _ hh'))) ?_
    refine WA_take 5 rfl (by kernel_rfl) (by kernel_rfl) (by kernel_rfl) (by kernel_rfl) rfl (by kernel_rfl) rfl (IM.le.refl _) (fun _ _ h => h) (PE_move rfl) ?_
    refine WA_take 6 rfl (by kernel_rfl) (by kernel_rfl) (by kernel_rfl) (by kernel_rfl) rfl (by kernel_rfl) rfl (IM.le.refl _) (fun _ _ h => h) (PE_nilCheck rfl) ?_
    refine WA_take 7 rfl (by kernel_rfl) (by kernel_rfl) (by kernel_rfl) (by kernel_rfl) rfl (by kernel_rfl) rfl (IM.le.refl _) (fun _ _ h => h) (PE_fieldAddr fa_sha_Sum_2 rfl) ?_
    refine WA_take 8 rfl (by kernel_rfl) (by kernel_rfl) (by kernel_rfl) (by kernel_rfl) rfl (by kernel_rfl) rfl (IM.le.refl _) (fun _ _ h => h) (PE_load tc_sl_uint8 rfl (.own hc' (sum_72 _ _ _ hh'))) ?_
    refine WA_take 9 rfl (by kernel_rfl) (by kernel_rfl) (by kernel_rfl) (by kernel_rfl) rfl (by kernel_rfl) rfl (IM.le.refl _) (fun _ _ h => h) (PE_sliceTo (h := 64) und_sl_uint8 te_uint8.size rfl rfl rfl (by omega)) ?_
    refine WA_take 10 rfl (by kernel_rfl) (by kernel_rfl) (by kernel_rfl) (by kernel_rfl) rfl (by kernel_rfl) rfl (IM.le.refl _) (fun _ _ h => h) (PE_move rfl) ?_
    refine WA_take 11 rfl (by kernel_rfl) (by kernel_rfl) (by kernel_rfl) (by kernel_rfl) rfl (by kernel_rfl) rfl (IM.le.refl _) (fun _ _ h => h) (PE_nilCheck rfl) ?_
    refine WA_take 12 rfl (by kernel_rfl) (by kernel_rfl) (by kernel_rfl) (by kernel_rfl) rfl (by kernel_rfl) rfl (IM.le.refl _) (fun _ _ h => h) (PE_fieldAddr fa_sha_Sum_1 rfl) ?_
    have hpre : BySl I3 (.slice a' 64 c') (r'.take 64) := BySl.take ho'.sl h64
    refine WA_op 13 rfl rfl (by kernel_rfl) (OE_call (l := [_, _, _]) E_sha_mix rfl rfl (mix_spec _ _ _ h' hh' _ (r'.take 64) hpre (by simp; omega) s 8 (fun i hi => .own hc' (sum_ki _ _ _ hh' i hi)))) ?_ ?_
    · rintro _ I3_13 ah3_13 ⟨_, rfl, _, rfl, rfl, rfl⟩; exact ⟨IM.le.refl _, fun _ _ h => h⟩
    rintro _ I3_13 ah3_13 ⟨_, rfl, _, rfl, rfl, rfl⟩
    refine WA_take 14 rfl (by kernel_rfl) (by kernel_rfl) (by kernel_rfl) (by kernel_rfl) rfl (by kernel_rfl) rfl (IM.le.refl _) (fun _ _ h => h) (PE_nilCheck rfl) ?_
    refine WA_take 15 rfl (by kernel_rfl) (by kernel_rfl) (by kernel_rfl) (by kernel_rfl) rfl (by kernel_rfl) rfl (IM.le.refl _) (fun _ _ h => h) (PE_fieldAddr fa_sha_Sum_0 rfl) ?_
    refine WA_last 16 rfl rfl (by kernel_rfl) (by kernel_rfl) (OE_storeA (us := (mixB h' (r'.take 64)).map w32v) ta_a8_uint32 rfl rfl (by simp [mixB_len _ _ hh']) (words_one _) hc' (by simp [mixB_len _ _ hh', sum_len _ _ _ hh'])) ?_
    rintro _ I3_16 ah3_16 ⟨rfl, rfl, rfl⟩
    have hm8 := mixB_len h' (r'.take 64) hh'
    rw [sum_splice _ _ _ _ hh' hm8]
    have ho4 := Own.below (y := .cells (sumCells (mixB h' (r'.take 64)) (.slice a' r'.length c') (n + l.length))) ho' (AH.set_same _ _ _)
    rw [AH.set_set] at ho4
    have hc4 := ho4.base s _ (AH.set_same _ _ _)
    generalize ah3.set s (.cells (sumCells (mixB h' (r'.take 64)) (.slice a' r'.length c') (n + l.length))) = ah4 at ho4 hc4 ⊢
    refine WA_done (by kernel_rfl) ?_
    refine QA_seq ?_
    refine CW_region (l := [_, _, _, _, _, _, _, _, _]) ?_
    refine WL_val rfl (PE_move rfl) ?_
    refine WL_val rfl (PE_move rfl) ?_
    refine WL_val rfl (PE_nilCheck rfl) ?_
    refine WL_val rfl (PE_fieldAddr fa_sha_Sum_2 rfl) ?_
    refine WL_val rfl (PE_load tc_sl_uint8 rfl (.own hc4 (sum_72 _ _ _ hm8))) ?_
    refine WL_val rfl (PE_sliceFrom (l := 64) und_sl_uint8 te_uint8.size rfl rfl rfl (by omega)) ?_
    refine WL_val rfl (PE_nilCheck rfl) ?_
    refine WL_val rfl (PE_fieldAddr fa_sha_Sum_2 rfl) ?_
    refine WL_op rfl (OE_store tc_sl_uint8 rfl rfl rfl hc4 (by simp [sum_len _ _ _ hm8])) ?_
    rintro _ I4_8 ah4_8 ⟨rfl, rfl, rfl⟩
    refine WL_nil ?_
    refine QA_block_normal ?_
    obtain ⟨ah5, hsub, ho5⟩ := Own.from ho4 (by omega : 64 ≤ r'.length)
    rw [sum_set72 _ _ _ _ hm8]
    generalize (Value.slice (if c' = 64 then a' else Option.map (fun x => x.add (64 * 1)) a') (r'.length - 64) (c' - 64)) = rn at ho5 ⊢
    replace ho5 := Own.below (y := .cells (sumCells (mixB h' (r'.take 64)) rn (n + l.length))) ho5 (AH.set_same _ _ _)
    rw [AH.set_set] at ho5
    refine QA_forget (ah' := ah5.set s (.cells (sumCells (mixB h' (r'.take 64)) rn (n + l.length)))) (AH.set_sub hsub) ?_
    refine QA_round (r'.length - 64) _ (by omega) ⟨mixB h' (r'.take 64), r'.drop 64, rn, rfl, hI3, hm8, by simp, by simp; omega, ?_, ?_⟩ (by repeat (first | exact .nil | refine .cons rfl ?_))
    · rw [← absorb_step h' r' (by omega)]; exact hab
    · have e : (r'.drop 64).map bv = (r'.map bv).drop (64 * 1) := by simp
      unfold OwnB
      rw [e, show (r'.drop 64).length = r'.length - 64 by simp]
      exact ho5
  · have h64 : r'.length < 64 := by simp at c1; omega
    refine CW_exit ?_
    refine QA_then_exit ?_
    refine QA_then_exit ?_
    refine QA_block_here ?_
    refine QA_end (rs := []) rfl rfl (hI3) (_) (fun _ _ h => h) ?_
    have e := hab
    rw [absorb_short h' r' h64] at e
    rw [← e]
    exact ⟨h0, hh', _, ho'⟩

end Go.Proofs.YthdpebagkfloaaaDoor

