/- sha: the padding, the word, the sum of parts. -/
import Derived.Test.YthdpebagkfloaaaDoorPF
namespace Go.Proofs.YthdpebagkfloaaaDoor
open Go Go.RowKit SL
set_option linter.unusedVariables false
set_option linter.unusedSimpArgs false
set_option maxRecDepth 100000
theorem tmod_nat (a b : Nat) : (a : Int).tmod (b : Int) = ((a % b : Nat) : Int) := rfl
theorem pad_cond (n j : Nat) (h : j ≤ padZ n) : ((n % 64 + (1 + j) + 8) % 64 = 0) ↔ j = padZ n := by unfold padZ at *; omega

theorem padding_spec (w0 : World) (I : IM) (ah : AH) (n : Nat) (hn : n ≤ 70368744177600) :
    SC P w0 n_sha_padding [.int .i64 n, .int .i64 64, .int .i64 8] I ah (fun v' I' ah' => ah = ah' ∧ BySl I' v' (shaPad n)) := by
  refine SC_enter fn_sha_padding rfl rfl (Nat.le_of_ble_eq_true rfl) ?_
  refine CW_seq ?_
  refine CW_region (l := [_]) ?_
  refine WL_val rfl (PE_assign rfl) ?_
  refine WL_nil ?_
  refine QA_seq ?_
  refine CW_seq ?_
  refine CW_region (l := [_, _]) ?_
  refine WL_op rfl (OE_litO (l := [_]) (vs := [_]) und_sl_uint8 te_uint8 rfl rfl rfl (by simp [Value.cells]) (by decide) rfl rfl) ?_
  rintro _ I1_0 ah1_0 ⟨v1_0, rfl, hI1_0, hv1_0, hn1_0⟩
  refine WL_val rfl (PE_assign rfl) ?_
  refine WL_nil ?_
  refine QA_seq ?_
  refine CW_seq ?_
  refine CW_block ?_
  refine CW_loop (fun k e I' ah' => ∃ v' j, e = [(0, .int .i64 n), (1, .int .i64 64), (2, .int .i64 8), (7, v')] ∧ IM.le I I' ∧ k = padZ n - j ∧ j ≤ padZ n ∧ OwnB I' ah ah' v' (128 :: List.replicate j 0)) (padZ n) (e0 := [(0, .int .i64 n), (1, .int .i64 64), (2, .int .i64 8), (7, v1_0)]) (⟨v1_0, 0, rfl, hI1_0, by simp, by omega, by simpa [OwnB, bv] using hv1_0⟩) (by repeat (first | exact .nil | refine .cons rfl ?_)) ?_
  rintro k e I2 ah2 ⟨v', j, rfl, hI2, rfl, hj, ho⟩
  obtain ⟨a', c', hva, _, _⟩ := SlI.form ho.sl
  have hlen : (128 :: List.replicate j (0 : UInt8)).length = 1 + j := by simp; omega
  have hpz : padZ n < 64 := by unfold padZ; omega
  refine CW_seq ?_
  refine CW_seq ?_
  refine CW_region (l := [_, _, _, _, _, _, _, _, _, _, _]) ?_
  refine WL_val rfl (PE_move rfl) ?_
  refine WL_val rfl (PE_move rfl) ?_
  refine WL_val rfl (PE_rem (r := ((n % 64 : Nat) : Int)) rfl rfl (by decide) (tmod_nat n 64)) ?_
  refine WL_val rfl (PE_move rfl) ?_
  refine WL_val rfl (PE_len (n := 1 + j) und_sl_uint8 (by rw [← hlen, ← hva]; rfl)) ?_
  refine WL_val rfl (PE_add (r := ((n % 64 + (1 + j) : Nat) : Int)) rfl rfl (w64e (by push_cast; rfl) (by omega) (by omega))) ?_
  refine WL_val rfl (PE_move rfl) ?_
  refine WL_val rfl (PE_add (r := ((n % 64 + (1 + j) + 8 : Nat) : Int)) rfl rfl (w64e (by push_cast; rfl) (by omega) (by omega))) ?_
  refine WL_val rfl (PE_move rfl) ?_
  refine WL_val rfl (PE_rem (r := (((n % 64 + (1 + j) + 8) % 64 : Nat) : Int)) rfl rfl (by decide) (tmod_nat _ 64)) ?_
  refine WL_val rfl (PE_nei rfl rfl rfl) ?_
  refine WL_nil ?_
  refine QA_seq ?_
  refine CW_cond rfl (fun c1 => ?_) (fun c1 => ?_)
  · have hne : j ≠ padZ n := fun h => by
      have := (pad_cond n j hj).2 h
      rw [this] at c1; simp at c1
    refine CW_skip ?_
    refine QA_seq ?_
    refine CW_block ?_
    refine CW_region (l := [_, _, _, _]) ?_
    refine WL_val rfl (PE_move rfl) ?_
    refine WL_op rfl (OE_litI (l := [_]) (vs := [_]) und_sl_uint8 te_uint8 rfl rfl rfl (by simp [Value.cells]) (by decide) rfl rfl) ?_
    rintro _ I3_1 ah3_1 ⟨v3_1, rfl, hI3_1, rfl, hv3_1, hn3_1⟩
    refine WL_op rfl (OE_append (n := 1 + j) (m := 1) (vs := (128 :: List.replicate j 0).map bv) (us := [0].map bv) und_sl_uint8 ⟨_, und_sl_uint8⟩ te_uint8 rfl rfl rfl (by have := (Own.mono ho hI3_1); rw [hlen] at this; exact this) (SlI.src hv3_1 _) (bvs_one _) (by decide) (by omega) (by omega)) ?_
    rintro _ I3_2 ah3_2 ⟨v3_2, rfl, hI3_2, hv3_2, hn3_2⟩
    refine WL_val rfl (PE_assign rfl) ?_
    refine WL_nil ?_
    refine QA_block_normal ?_
    refine QA_round (padZ n - (j + 1)) _ (by omega) ⟨v3_2, j + 1, rfl, hI2.trans (hI3_1.trans hI3_2), rfl, by omega, ?_⟩ (by repeat (first | exact .nil | refine .cons rfl ?_))
    have := OwnB.of hv3_2 (by simp; omega)
    rwa [show 128 :: List.replicate (j + 1) (0 : UInt8) = (128 :: List.replicate j 0) ++ [0] by simp [List.replicate_succ']]
  · have heq : j = padZ n := (pad_cond n j hj).1 (by simp at c1; omega)
    subst heq
    refine CW_exit ?_
    refine QA_then_exit ?_
    refine QA_then_exit ?_
    refine QA_block_here ?_
    refine QA_seq ?_
    refine CW_seq ?_
    refine CW_seq ?_
    refine CW_region (l := [_, _, _]) ?_
    refine WL_val rfl (PE_move rfl) ?_
    refine WL_val rfl (PE_sub (r := ((0 : Nat) : Int)) rfl rfl (w64e (by simp) (by omega) (by omega))) ?_
    refine WL_val rfl (PE_move rfl) ?_
    refine WL_nil ?_
    refine QA_seq ?_
    refine CW_for (0) (by omega) (fun k e I' ah' => e = [(7, v'), (0, .int .i64 n)] ∧ I2 = I' ∧ ah2 = ah') ([(7, v'), (0, .int .i64 n)]) (⟨rfl, rfl, rfl⟩) (by repeat (first | exact .nil | refine .cons rfl ?_)) (by rintro k e I ah ⟨rfl, _⟩; exact ⟨rfl, rfl, rfl, rfl⟩) rfl rfl rfl rfl ?_ ?_
    · intro k e I ah hk
      exact absurd hk (Nat.not_lt_zero _)
    · rintro e I2 ah2 ⟨rfl, rfl, rfl⟩
      refine QA_seq ?_
      refine CW_seq ?_
      refine CW_region (l := [_, _, _, _, _, _]) ?_
      refine WL_val rfl (PE_move rfl) ?_
      refine WL_val rfl (PE_move rfl) ?_
      refine WL_val rfl (PE_convI und_int64 und_uint64 rfl (wu64 (by omega) (by omega))) ?_
      refine WL_val rfl (PE_mul (r := ((n * 8 : Nat) : Int)) rfl rfl (by rw [wu64 (by omega) (by omega)]; push_cast; rfl)) ?_
      refine WL_op rfl (OE_call (l := [_, _, _]) E_octet_Big rfl rfl (big_spec _ _ _ _ (128 :: List.replicate (padZ n) 0) (n * 8) 8 ho.sl (by simp; omega) (by omega))) ?_
      rintro _ I8_4 ah8_4 ⟨v8, rfl, hI8, hp8⟩
      refine WL_val rfl (PE_assign rfl) ?_
      refine WL_nil ?_
      refine QA_seq ?_
      refine CW_ret ?_
      refine QA_return (rs := [_]) rfl rfl (hI2.trans hI8) (ah) (fun b x e => Own.base hp8 b x (Own.base ho b x e)) ?_
      exact ⟨rfl, Own.sl hp8⟩

theorem shaPad_len (n : Nat) : (shaPad n).length ≤ 73 := by simp [shaPad, bigB_len]; unfold padZ; omega
theorem splice_word (h : List UInt32) (k : Nat) (hk : k < h.length) (h8 : h.length = 8) :
    splice ((wordsB (h.take k) ++ List.replicate (32 - 4 * k) 0).map bv) (0 + 4 * k * 1) ((([] ++ bigB (h.getD k 0).toNat 4).map bv).take (min ([] ++ bigB (h.getD k 0).toNat 4).length (32 - 4 * k) * 1)) = (wordsB (h.take (k + 1)) ++ List.replicate (32 - 4 * (k + 1)) 0).map bv := by
  have e1 : (wordsB (h.take k)).length = 4 * k := by rw [wordsB_len, List.length_take]; omega
  have e2 : wordsB (h.take (k + 1)) = wordsB (h.take k) ++ bigB (h.getD k 0).toNat 4 := by
    rw [List.take_succ_eq_append_getElem hk]; simp only [wordsB, List.flatMap_append, List.flatMap_cons, List.flatMap_nil, List.append_nil, List.getD, List.getElem?_eq_getElem hk, Option.getD_some]
  have e3 : ([] ++ bigB (h.getD k 0).toNat 4).length = 4 := by simp [bigB_len]
  rw [e2]
  simp only [splice, e3, Nat.zero_add, Nat.mul_one]
  rw [show min 4 (32 - 4 * k) = 4 by omega, List.take_of_length_le (l := List.map bv ([] ++ bigB (h.getD k 0).toNat 4)) (by simp [bigB_len])]
  rw [List.map_append, List.take_append_of_le_length (by rw [List.length_map, e1]; exact Nat.le_refl _), List.take_of_length_le (l := List.map bv (wordsB (List.take k h))) (by rw [List.length_map, e1]; exact Nat.le_refl _)]
  rw [List.drop_append, List.drop_of_length_le (by simp only [List.length_map, List.length_append, List.length_take, e1, bigB_len]; omega)]
  simp only [List.map_append, List.append_assoc, List.nil_append, List.length_map, e1, bigB_len, List.map_replicate, List.drop_replicate]
  congr 3
  omega

abbrev z32 : AObj := .cells (List.replicate 32 (Value.int .u8 0))

theorem word_spec (w0 : World) (I : IM) (ah0 ah : AH) (s : Nat) (h : List UInt32) (rest : List UInt8) (n : Nat) (hs : SumAt I ah0 ah s h rest n) (hr : rest.length < 64) (hn : n ≤ 70368744177600) :
    SC P w0 n_sha_Sum_Word [.pointer (some ⟨s, 0, none⟩)] I ah (fun v' I' ah' => ah = ah' ∧ v' = .agg ((wordsB (absorb h (rest ++ shaPad n)).1).map bv).toArray) := by
  obtain ⟨h0, hh, rv, ho⟩ := hs
  have hc := ho.base s _ (AH.set_same _ _ _)
  obtain ⟨ra, rc, rfl, _, _⟩ := SlI.form ho.sl
  refine SC_enter fn_sha_Sum_Word rfl rfl (Nat.le_of_ble_eq_true rfl) ?_
  refine CW_seq ?_
  refine CW_region (l := [_]) ?_
  refine WL_op rfl (OE_alloc rfl te_api_Word.zero) ?_
  rintro _ I0_0 ah0_0 ⟨b0_0, rfl, rfl, rfl, hb0_0, hw0_0⟩
  have hc1 := AH.keep1 z32 hb0_0 hc
  refine WL_nil ?_
  refine QA_seq ?_
  refine CW_seq ?_
  refine CW_drawS (l := [_, _, _, _, _, _, _, _, _, _, _]) 11 mixed ?_
  refine WA_take 0 rfl (by kernel_rfl) (by kernel_rfl) (by kernel_rfl) (by kernel_rfl) rfl (by kernel_rfl) rfl (IM.le.refl _) (fun _ _ h => h) (PE_move rfl) ?_
  refine WA_take 1 rfl (by kernel_rfl) (by kernel_rfl) (by kernel_rfl) (by kernel_rfl) rfl (by kernel_rfl) rfl (IM.le.refl _) (fun _ _ h => h) (PE_nilCheck rfl) ?_
  refine WA_take 2 rfl (by kernel_rfl) (by kernel_rfl) (by kernel_rfl) (by kernel_rfl) rfl (by kernel_rfl) rfl (IM.le.refl _) (fun _ _ h => h) (PE_fieldAddr fa_sha_Sum_0 rfl) ?_
  refine WA_take 3 rfl (by kernel_rfl) (by kernel_rfl) (by kernel_rfl) (by kernel_rfl) rfl (by kernel_rfl) rfl (IM.le.refl _) (fun _ _ h => h) (PE_loadA (vs := h.map w32v) ta_a8_uint32 rfl (by simp [hh]) (Cells.ownAt hc1 (sum_h _ _ _ hh))) ?_
  refine WA_take 4 rfl (by kernel_rfl) (by kernel_rfl) (by kernel_rfl) (by kernel_rfl) rfl (by kernel_rfl) rfl (IM.le.refl _) (fun _ _ h => h) (PE_move rfl) ?_
  refine WA_take 5 rfl (by kernel_rfl) (by kernel_rfl) (by kernel_rfl) (by kernel_rfl) rfl (by kernel_rfl) rfl (IM.le.refl _) (fun _ _ h => h) (PE_nilCheck rfl) ?_
  refine WA_take 6 rfl (by kernel_rfl) (by kernel_rfl) (by kernel_rfl) (by kernel_rfl) rfl (by kernel_rfl) rfl (IM.le.refl _) (fun _ _ h => h) (PE_fieldAddr fa_sha_Sum_1 rfl) ?_
  refine WA_take 7 rfl (by kernel_rfl) (by kernel_rfl) (by kernel_rfl) (by kernel_rfl) rfl (by kernel_rfl) rfl (IM.le.refl _) (fun _ _ h => h) (PE_loadA (vs := shaK.map w32v) ta_a64_uint32 rfl (by simp [shaK_len]) (Cells.ownAt hc1 (sum_k _ _ _ hh))) ?_
  refine WA_take 8 rfl (by kernel_rfl) (by kernel_rfl) (by kernel_rfl) (by kernel_rfl) rfl (by kernel_rfl) rfl (IM.le.refl _) (fun _ _ h => h) (PE_buildS (vs := sumCells h (.slice none 0 0) 0) ts_sha_Sum rfl (fill_sum _ _ _ _ (by simp [hh]) (by simp [shaK_len]))) ?_
  refine WA_op 9 rfl rfl (by kernel_rfl) (OE_box rfl rfl) ?_ ?_
  · rintro _ I1_9 ah1_9 ⟨b1_9, rfl, rfl, rfl, hb1_9, hw1_9⟩; exact ⟨IM.le.refl _, AH.keep_set (fun _ _ h => h) hb1_9⟩
  rintro _ I1_9 ah1_9 ⟨b1_9, rfl, rfl, rfl, hb1_9, hw1_9⟩
  refine WA_take 10 rfl (by kernel_rfl) (by kernel_rfl) (by kernel_rfl) (by kernel_rfl) rfl (by kernel_rfl) rfl (IM.le.refl _) (AH.keep_set (fun _ _ h => h) hb1_9) (PE_assign rfl) ?_
  refine WA_done (by kernel_rfl) ?_
  have hc2 := AH.keep1 (.cells (sumCells h (.slice none 0 0) 0)) hb1_9 hc1
  have hs1 : SumAt I (ah.set b0_0 z32) ((ah.set b0_0 z32).set b1_9 (.cells (sumCells h (.slice none 0 0) 0))) b1_9 h [] 0 := ⟨hb1_9, hh, _, Own.nil _ _ _⟩
  refine QA_seq ?_
  refine CW_seq ?_
  refine CW_region (l := [_, _, _, _, _, _]) ?_
  refine WL_val rfl (PE_move rfl) ?_
  refine WL_val rfl (PE_move rfl) ?_
  refine WL_val rfl (PE_nilCheck rfl) ?_
  refine WL_val rfl (PE_fieldAddr fa_sha_Sum_2 rfl) ?_
  refine WL_val rfl (PE_load tc_sl_uint8 rfl (.own hc2 (sum_72 _ _ _ hh))) ?_
  refine WL_op rfl (OE_call (l := [_, _]) E_sha_Sum_Add rfl rfl (add_spec _ _ _ _ b1_9 h [] 0 hs1 _ rest ho.sl (by omega) (by simp) (by omega))) ?_
  rintro _ I2_5 ah2_5 ⟨v2, rfl, hI2, hs2⟩
  rw [List.nil_append, absorb_short _ _ hr, Nat.zero_add] at hs2
  have hc3 := hs2.base s _ hc1
  refine WL_nil ?_
  refine QA_seq ?_
  refine CW_seq ?_
  refine CW_region (l := [_, _, _, _, _, _, _]) ?_
  refine WL_val rfl (PE_move rfl) ?_
  refine WL_val rfl (PE_move rfl) ?_
  refine WL_val rfl (PE_nilCheck rfl) ?_
  refine WL_val rfl (PE_fieldAddr fa_sha_Sum_3 rfl) ?_
  refine WL_val rfl (PE_load tc_int64 rfl (.own hc3 (sum_73 _ _ _ hh))) ?_
  refine WL_op rfl (OE_call (l := [_, _, _]) E_sha_padding rfl rfl (padding_spec _ _ _ n hn)) ?_
  rintro _ I3_5 ah3_5 ⟨v3, rfl, hI3, rfl, hp3⟩
  refine WL_op rfl (OE_call (l := [_, _]) E_sha_Sum_Add rfl rfl (add_spec _ _ _ _ b1_9 h rest rest.length (hs2.mono hI3) v3 (shaPad n) hp3 (by have := shaPad_len n; omega) hr (by omega))) ?_
  rintro _ I3_6 ah3_6 ⟨v4, rfl, hI4, hs4⟩
  generalize (absorb h (rest ++ shaPad n)).1 = h' at hs4
  have hk4 := hs4.base
  have hz4 := hk4 b0_0 _ (AH.set_same _ _ _)
  obtain ⟨_, hh', rv', ho'⟩ := hs4
  have hc4 := ho'.base b1_9 _ (AH.set_same _ _ _)
  refine WL_nil ?_
  refine QA_seq ?_
  refine CW_seq ?_
  refine CW_region (l := [_]) ?_
  refine WL_op rfl (OE_alloc rfl te_api_Word.zero) ?_
  rintro _ I4_0 ah4_0 ⟨b4_0, rfl, rfl, rfl, hb4_0, hw4_0⟩
  have hc5 := AH.keep1 z32 hb4_0 hc4
  have hz5 := AH.keep1 z32 hb4_0 hz4
  have f4 : ah b4_0 = none := by
    cases e : ah b4_0 with
    | none => rfl
    | some x => rw [hk4 _ _ (AH.keep1 z32 hb0_0 e)] at hb4_0; cases hb4_0
  have hk5 : ∀ b x, ah b = some x → (ah3_6.set b4_0 z32) b = some x := fun b x e => AH.keep1 z32 hb4_0 (hk4 b x (AH.keep1 z32 hb0_0 e))
  have n24 : b0_0 ≠ b4_0 := ne_of_some hz4 hb4_0
  refine WL_nil ?_
  refine QA_seq ?_
  refine CW_seq ?_
  refine CW_seq ?_
  refine CW_region (l := [_, _, _, _, _]) ?_
  refine WL_val rfl (PE_move rfl) ?_
  refine WL_val rfl (PE_nilCheck rfl) ?_
  refine WL_val rfl (PE_fieldAddr fa_sha_Sum_0 rfl) ?_
  refine WL_val rfl (PE_loadA (vs := h'.map w32v) ta_a8_uint32 rfl (by simp [hh']) (Cells.ownAt hc5 (sum_h _ _ _ hh'))) ?_
  refine WL_val rfl (PE_move rfl) ?_
  refine WL_nil ?_
  refine QA_seq ?_
  refine CW_forC (8) (by omega) (fun k e I' A' => e = [(33, .agg (h'.map w32v).toArray), (4, .pointer (some ⟨b4_0, 0, none⟩)), (2, .pointer (some ⟨b0_0, 0, none⟩))] ∧ IM.le I I' ∧ A' b4_0 = some (.cells ((wordsB (h'.take k) ++ List.replicate (32 - 4 * k) 0).map bv)) ∧ A' b0_0 = some (.cells (List.replicate 32 (Value.int .u8 0))) ∧ ∀ b x, ah b = some x → A' b = some x) ([(33, .agg (h'.map w32v).toArray), (4, .pointer (some ⟨b4_0, 0, none⟩)), (2, .pointer (some ⟨b0_0, 0, none⟩))]) (⟨rfl, hI2.trans (hI3.trans hI4), by rw [AH.set_same]; rfl, hz5, hk5⟩) (by repeat (first | exact .nil | refine .cons rfl ?_)) (by rintro k e I ah ⟨rfl, _⟩; exact ⟨rfl, rfl, rfl⟩) rfl rfl rfl rfl ?_ ?_ rfl
  · rintro k e I6 A' hk ⟨rfl, hI6, h4, h2, hkeep⟩
    refine CW_block ?_
    refine CW_seq ?_
    refine CW_region (l := [_, _, _, _]) ?_
    refine WL_val rfl (PE_move rfl) ?_
    refine WL_val rfl (PE_indexA und_a8_uint32 tc_uint32 rfl rfl rfl hk (by rw [List.getElem?_toArray]; exact map_get h' k (by omega))) ?_
    refine WL_val rfl (PE_assign rfl) ?_
    refine WL_val rfl (PE_assign rfl) ?_
    refine WL_nil ?_
    refine QA_seq ?_
    refine CW_drawS (l := [_, _, _, _, _, _, _]) 6 mixed ?_
    refine WA_take 0 rfl (by kernel_rfl) (by kernel_rfl) (by kernel_rfl) (by kernel_rfl) rfl (by kernel_rfl) rfl (IM.le.refl _) (fun _ _ h => h) (PE_move rfl) ?_
    refine WA_take 1 rfl (by kernel_rfl) (by kernel_rfl) (by kernel_rfl) (by kernel_rfl) rfl (by kernel_rfl) rfl (IM.le.refl _) (fun _ _ h => h) (PE_mul (r := ((4 * k : Nat) : Int)) rfl rfl (w64e (by push_cast; omega) (by omega) (by omega))) ?_
    refine WA_take 2 rfl (by kernel_rfl) (by kernel_rfl) (by kernel_rfl) (by kernel_rfl) rfl (by kernel_rfl) rfl (IM.le.refl _) (fun _ _ h => h) (PE_arrFrom (l := 4 * k) und_api_Word te_uint8.size rfl rfl rfl (by omega)) ?_
    refine WA_take 3 rfl (by kernel_rfl) (by kernel_rfl) (by kernel_rfl) (by kernel_rfl) rfl (by kernel_rfl) rfl (IM.le.refl _) (fun _ _ h => h) (PE_move rfl) ?_
    refine WA_take 4 rfl (by kernel_rfl) (by kernel_rfl) (by kernel_rfl) (by kernel_rfl) rfl (by kernel_rfl) rfl (IM.le.refl _) (fun _ _ h => h) (PE_convI (r := (((h'.getD k 0).toNat : Nat) : Int)) und_uint32 und_uint64 rfl (wu64 (by omega) (by have := (h'.getD k 0).toNat_lt; omega))) ?_
    refine WA_op 5 rfl rfl (by kernel_rfl) (OE_call (l := [_, _, _]) E_octet_Big rfl rfl (big_spec _ _ _ _ [] (h'.getD k 0).toNat 4 (BySl.nil _) (by simp) (by omega))) ?_ ?_
    · rintro _ I8_5 ah8_5 ⟨v8, rfl, hI8, hp8⟩; exact ⟨hI8, Own.base hp8⟩
    rintro _ I8_5 ah8_5 ⟨v8, rfl, hI8, hp8⟩
    refine WA_last 6 rfl rfl (by kernel_rfl) (by kernel_rfl) (OE_copyd rfl und_sl_uint8 te_uint8.size rfl rfl rfl (Own.base hp8 _ _ h4) ((OwnB.sl hp8).src _) (bvs_one _) (by simp [wordsB_len, hh']; omega)) ?_
    rintro _ I8_6 ah8_6 ⟨rfl, rfl, rfl⟩
    refine WA_done (by kernel_rfl) ?_
    refine QA_block_normal ?_
    exact QA_nextC _ ⟨rfl, hI6.trans hI8, by rw [AH.set_same, splice_word h' k (by omega) hh'], by rw [AH.set_ne _ _ n24]; exact Own.base hp8 _ _ h2, AH.keep_set' (fun b x e => Own.base hp8 b x (hkeep b x e)) f4⟩ (by repeat (first | exact .nil | refine .cons rfl ?_))
  · rintro e I6 A' ⟨rfl, hI6, h4, h2, hkeep⟩
    rw [List.take_of_length_le (by omega : h'.length ≤ 8)] at h4
    simp only [Nat.reduceMul, Nat.sub_self, List.replicate_zero, List.append_nil] at h4
    refine QA_seq ?_
    refine CW_seq ?_
    refine CW_region (l := [_, _]) ?_
    refine WL_val rfl (PE_loadA (vs := (wordsB h').map bv) ta_api_Word rfl (by simp [wordsB_len, hh']) (.own h4)) ?_
    refine WL_op rfl (OE_storeA ta_api_Word rfl rfl (by simp [wordsB_len, hh']) (bvs_one _) h2 (by simp [wordsB_len, hh'])) ?_
    rintro _ I10_1 ah10_1 ⟨rfl, rfl, rfl⟩
    rw [splice_all _ _ (by simp [wordsB_len, hh'])]
    refine WL_nil ?_
    refine QA_seq ?_
    refine CW_ret ?_
    refine QA_returnR (rs := [_]) rfl (.agg rfl (AH.set_same _ _ _) (by rw [show ((wordsB h').map bv).length = 32 by simp [wordsB_len, hh']]; exact ta_api_Word) .nil) (hI6) (_) (AH.keep_set' hkeep hb0_0) ?_
    exact ⟨rfl, rfl⟩

theorem of_spec (w0 : World) (I : IM) (ah : AH) (v : Value) (ls : List (List UInt8)) (h : ByRows I v ls) (hn : ls.length ≤ 70368744177600) (hl : ls.flatten.length ≤ 70368744177600) :
    SC P w0 n_sha_Of [v] I ah (fun v' I' ah' => ah = ah' ∧ v' = .agg ((sha ls.flatten).map bv).toArray) := by
  obtain ⟨vs, hv, hrows⟩ := h
  obtain ⟨a, c, hva, hc, hnil⟩ := hv.form
  refine SC_enter fn_sha_Of rfl rfl (Nat.le_of_ble_eq_true rfl) ?_
  refine CW_seq ?_
  refine CW_region (l := [_]) ?_
  refine WL_op rfl (OE_alloc rfl te_api_Word.zero) ?_
  rintro _ I0_0 ah0_0 ⟨b0_0, rfl, rfl, rfl, hb0_0, hw0_0⟩
  refine WL_nil ?_
  refine QA_seq ?_
  refine CW_seq ?_
  refine CW_region (l := [_, _]) ?_
  refine WL_op rfl (OE_call (l := []) E_sha_New rfl rfl (new_spec _ _ _)) ?_
  rintro _ I1_0 ah1_0 ⟨_, rfl, _, rfl, s, rfl, hs1⟩
  refine WL_val rfl (PE_assign rfl) ?_
  refine WL_nil ?_
  refine QA_seq ?_
  refine CW_seq ?_
  refine CW_seq ?_
  refine CW_region (l := [_, _, _]) ?_
  refine WL_val rfl (PE_move rfl) ?_
  refine WL_val rfl (PE_len und_sl_sl_uint8 (by rw [← hva]; rfl)) ?_
  refine WL_val rfl (PE_move rfl) ?_
  refine WL_nil ?_
  refine QA_seq ?_
  refine CW_for (ls.length) (by omega) (fun k e I' A' => e = [(7, v), (3, .pointer (some ⟨s, 0, none⟩)), (2, .pointer (some ⟨b0_0, 0, none⟩))] ∧ IM.le I I' ∧ SumAt I' (ah.set b0_0 z32) A' s (absorb shaStart (ls.take k).flatten).1 (absorb shaStart (ls.take k).flatten).2 (ls.take k).flatten.length) ([(7, v), (3, .pointer (some ⟨s, 0, none⟩)), (2, .pointer (some ⟨b0_0, 0, none⟩))]) (⟨rfl, IM.le.refl _, by rw [List.take_zero]; exact hs1⟩) (by repeat (first | exact .nil | refine .cons rfl ?_)) (by rintro k e I ah ⟨rfl, _⟩; exact ⟨rfl, rfl, rfl, rfl⟩) rfl rfl rfl rfl ?_ ?_
  · rintro k e I2 A' hk ⟨rfl, hI2, hs2⟩
    obtain ⟨b, o, c, hvb, _, hcv⟩ := hv.at hk
    obtain ⟨u, hu, hul⟩ := hrows k ls[k] (by simp)
    have h1 := len_le_flat ls k hk
    have h2 := flat_le ls k
    refine CW_block ?_
    refine CW_seq ?_
    refine CW_region (l := [_, _, _]) ?_
    refine WL_val rfl (PE_index1 und_sl_sl_uint8 te_sl_uint8.size (by rw [← hvb]; rfl) rfl rfl hk) ?_
    refine WL_val rfl (PE_load tc_sl_uint8 rfl (.imm (hI2 _ _ _ (hcv k _ hu)))) ?_
    refine WL_val rfl (PE_assign rfl) ?_
    refine WL_nil ?_
    refine QA_seq ?_
    refine CW_region (l := [_, _, _]) ?_
    refine WL_val rfl (PE_move rfl) ?_
    refine WL_val rfl (PE_move rfl) ?_
    refine WL_op rfl (OE_call (l := [_, _]) E_sha_Sum_Add rfl rfl (add_spec _ _ _ _ s _ _ _ hs2 u ls[k] (hul.mono hI2) (by omega) (absorb_len _ _ rfl).2 (by omega))) ?_
    rintro _ I5_2 ah5_2 ⟨v5, rfl, hI5, hs5⟩
    refine WL_nil ?_
    refine QA_block_normal ?_
    exact QA_next _ ⟨rfl, hI2.trans hI5, by rw [flat_take ls k hk, List.length_append, absorb_more]; exact hs5⟩ (by repeat (first | exact .nil | refine .cons rfl ?_))
  · rintro e I2 A' ⟨rfl, hI2, hs2⟩
    rw [List.take_of_length_le (Nat.le_refl _)] at hs2
    refine QA_seq ?_
    refine CW_seq ?_
    refine CW_region (l := [_, _, _]) ?_
    refine WL_val rfl (PE_move rfl) ?_
    refine WL_op rfl (OE_call (l := [_]) E_sha_Sum_Word rfl rfl (word_spec _ _ _ _ s _ _ _ hs2 (absorb_len _ _ rfl).2 hl)) ?_
    rintro _ I7_1 ah7_1 ⟨v7, rfl, hI7, rfl, rfl⟩
    rw [← absorb_more]
    change WL _ _ _ ((18, .agg ((sha ls.flatten).map bv).toArray) :: _) _ _ _
    refine WL_op rfl (OE_storeA ta_api_Word rfl rfl (by simp [sha_len]) (bvs_one _) (hs2.base _ _ (AH.set_same _ _ _)) (by simp [sha_len])) ?_
    rintro _ I7_2 ah7_2 ⟨rfl, rfl, rfl⟩
    rw [splice_all _ _ (by simp [sha_len])]
    refine WL_nil ?_
    refine QA_seq ?_
    refine CW_ret ?_
    refine QA_returnR (rs := [_]) rfl (.agg rfl (AH.set_same _ _ _) (by rw [show ((sha ls.flatten).map bv).length = 32 by simp [sha_len]]; exact ta_api_Word) .nil) (hI2.trans hI7) (_) (AH.keep_set' (fun b x e => hs2.base b x (AH.keep1 z32 hb0_0 e)) hb0_0) ?_
    exact ⟨rfl, rfl⟩

end Go.Proofs.YthdpebagkfloaaaDoor

