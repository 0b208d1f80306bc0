/- journal: frames. -/
import Derived.Test.YthdpebagkfloaaaDoorPO
namespace Go.Proofs.YthdpebagkfloaaaDoor
open Go Go.RowKit SL
set_option linter.unusedVariables false
set_option linter.unusedSimpArgs false
set_option maxRecDepth 100000
def frameB (b : List UInt8) : List UInt8 := bigB b.length 4 ++ (sha (bigB b.length 4 ++ b)).take 16 ++ b
def nextP (b : List UInt8) : Option (List UInt8 × List UInt8) :=
  if b.length < 20 then none else
  if b.length - 20 < ofBig (b.take 4) then none else
  if (sha (b.take 4 ++ (b.drop 20).take (ofBig (b.take 4)))).take 16 = (b.drop 4).take 16 then some ((b.drop 20).take (ofBig (b.take 4)), b.drop (20 + ofBig (b.take 4))) else none
theorem Rows.two {I : IM} {u1 u2 v : Value} {l1 l2 : List UInt8} (h1 : BySl I u1 l1) (h2 : BySl I u2 l2) (hv : SlI I v 1 2 [u1, u2]) : ByRows I v [l1, l2] := Rows.by (((Rows.nil I).snoc h1).snoc h2) hv
theorem sha_size (l : List UInt8) : (sha l).length = 32 := sha_len l

theorem frame_spec (w0 : World) (I : IM) (ah : AH) (v : Value) (b : List UInt8) (h : BySl I v b) (hb : b.length ≤ 1048576) :
    SC P w0 n_journal_frame [v] I ah (fun v' I' ah' => ah = ah' ∧ BySl I' v' (frameB b)) := by
  have hv := h
  obtain ⟨a, c, rfl, hc, hnil⟩ := h.form
  refine SC_enter fn_journal_frame rfl rfl (Nat.le_of_ble_eq_true rfl) ?_
  refine CW_seq ?_
  refine CW_region (l := [_]) ?_
  refine WL_val rfl (PE_assign rfl) ?_
  refine WL_nil ?_
  refine QA_seq ?_
  refine CW_seq ?_
  refine CW_region (l := [_, _, _, _, _]) ?_
  refine WL_val rfl (PE_move rfl) ?_
  refine WL_val rfl (PE_len und_sl_uint8 rfl) ?_
  refine WL_val rfl (PE_convI (r := ((b.length : Nat) : Int)) und_int und_uint64 rfl (wu64 (by omega) (by omega))) ?_
  refine WL_op rfl (OE_call (l := [_, _, _]) E_octet_Big rfl rfl (big_spec _ _ _ _ [] b.length 4 (BySl.nil _) (by simp) (by decide))) ?_
  rintro _ I1_3 ah1_3 ⟨v3, rfl, hI3, ho3⟩
  rw [List.nil_append] at ho3
  obtain ⟨ha, hc3, rfl, _⟩ := SlI.form ho3.sl
  have hl4 := bigB_len b.length 4
  refine WL_val rfl (PE_assign rfl) ?_
  refine WL_nil ?_
  refine QA_seq ?_
  refine CW_seq ?_
  refine CW_region (l := [_, _, _, _, _, _]) ?_
  refine WL_val rfl (PE_move rfl) ?_
  refine WL_val rfl (PE_move rfl) ?_
  refine WL_op rfl (OE_litI (l := [_, _]) (vs := [_, _]) und_sl_sl_uint8 te_sl_uint8 rfl rfl rfl (by simp [Value.cells]) (by decide) rfl rfl) ?_
  rintro _ I2_2 ah2_2 ⟨v2_2, rfl, hI2_2, rfl, hv2_2, hn2_2⟩
  refine WL_op rfl (OE_call (l := [_]) E_sha_Of rfl rfl (of_spec _ _ _ _ [bigB b.length 4, b] (Rows.two (ho3.sl.mono hI2_2) ((hv.mono hI3).mono hI2_2) hv2_2) (by simp) (by simp [hl4]; omega))) ?_
  rintro _ I2_3 ah2_3 ⟨_, rfl, hI23, rfl, rfl⟩
  rw [show [bigB b.length 4, b].flatten = bigB b.length 4 ++ b by simp]
  have hsl := sha_size (bigB b.length 4 ++ b)
  refine WL_op rfl (OE_alloc rfl te_api_Word.zero) ?_
  rintro _ I2_4 ah2_4 ⟨b2_4, rfl, rfl, rfl, hb2_4, hw2_4⟩
  refine WL_op rfl (OE_storeA (us := (sha (bigB b.length 4 ++ b)).map bv) ta_api_Word rfl rfl (by simp [hsl]) (bvs_one _) (AH.set_same _ _ _) (by simp [hsl, Value.cells])) ?_
  rintro _ I2_5 ah2_5 ⟨rfl, rfl, rfl⟩
  rw [AH.set_set, splice_all _ _ (by simp [hsl, Value.cells])]
  refine WL_freeze (AH.set_same _ _ _) ?_
  rintro I25 hI25 hz25
  rw [AH.del_set, AH.del_none _ hb2_4]
  have hsum : BySl I25 (.slice (some ⟨b2_4, 0, none⟩) 16 32) ((sha (bigB b.length 4 ++ b)).take 16) := by
    have hl16 : ((sha (bigB b.length 4 ++ b)).take 16).length = 16 := by simp [hsl]
    unfold BySl; rw [hl16]
    refine .inr ⟨b2_4, 0, 32, rfl, by omega, by simp [hsl], fun i u e => ?_⟩
    rw [Nat.zero_add]; refine hz25 i u ?_
    rw [List.map_take, List.getElem?_take] at e
    split at e
    · exact e
    · cases e
  have hI3' := (hI2_2.trans hI23).trans hI25
  refine WL_nil ?_
  refine QA_seq ?_
  refine CW_seq ?_
  refine CW_region (l := [_, _, _, _, _, _]) ?_
  refine WL_val rfl (PE_move rfl) ?_
  refine WL_val rfl (PE_sliceArr (l := none) (h := some 16) und_api_Word te_uint8.size rfl ⟨_, rfl, by omega⟩ trivial) ?_
  refine WL_op rfl (OE_append (n := (bigB b.length 4).length) (m := 16) (vs := (bigB b.length 4).map bv) (us := ((sha (bigB b.length 4 ++ b)).take 16).map bv) und_sl_uint8 ⟨_, und_sl_uint8⟩ te_uint8 rfl rfl rfl (Own.mono ho3 hI3') (by have := hsum.src ah1_3; rw [show ((sha (bigB b.length 4 ++ b)).take 16).length = 16 by simp [hsl]] at this; exact this) (bvs_one _) (by decide) (by omega) (by omega)) ?_
  rintro _ I3_2 ah3_2 ⟨v3_2, rfl, hI3_2, hv3_2, hn3_2⟩
  refine WL_val rfl (PE_move rfl) ?_
  have ho2 := OwnB.of hv3_2 (by rw [show ((sha (bigB b.length 4 ++ b)).take 16).length = 16 by simp [hsl]])
  have hlen2 : (bigB b.length 4 ++ (sha (bigB b.length 4 ++ b)).take 16).length = 20 := by simp [hl4, hsl]
  refine WL_op rfl (OE_append (n := (bigB b.length 4 ++ (sha (bigB b.length 4 ++ b)).take 16).length) (m := b.length) (vs := (bigB b.length 4 ++ (sha (bigB b.length 4 ++ b)).take 16).map bv) (us := b.map bv) und_sl_uint8 ⟨_, und_sl_uint8⟩ te_uint8 rfl rfl rfl ho2 ((((hv.mono hI3).mono hI3').mono hI3_2).src _) (bvs_one _) (by decide) (by omega) (by omega)) ?_
  rintro _ I3_4 ah3_4 ⟨v3_4, rfl, hI3_4, hv3_4, hn3_4⟩
  refine WL_val rfl (PE_assign rfl) ?_
  refine WL_nil ?_
  refine QA_seq ?_
  refine CW_ret ?_
  refine QA_return (rs := [_]) rfl rfl (((hI3.trans hI3').trans hI3_2).trans hI3_4) (ah) (Own.base hv3_4) ?_
  exact ⟨rfl, (OwnB.of hv3_4 rfl).sl⟩

theorem next_spec (w0 : World) (I : IM) (ah : AH) (v : Value) (b : List UInt8) (h : BySl I v b) (hb : b.length ≤ 1048576) :
    SC P w0 n_journal_next [v] I ah (fun v' I' ah' => ah = ah' ∧ ∃ xv rv, v' = .tuple #[xv, rv, .bool (nextP b).isSome] ∧ ∀ x r, nextP b = some (x, r) → BySl I' xv x ∧ BySl I' rv r) := by
  have hv := h
  obtain ⟨a, c, rfl, hc, hnil⟩ := h.form
  refine SC_enter fn_journal_next rfl rfl (Nat.le_of_ble_eq_true rfl) ?_
  refine CW_seq ?_
  refine CW_region (l := [_, _, _]) ?_
  refine WL_val rfl (PE_assign rfl) ?_
  refine WL_val rfl (PE_assign rfl) ?_
  refine WL_val rfl (PE_assign rfl) ?_
  refine WL_nil ?_
  refine QA_seq ?_
  refine CW_seq ?_
  refine CW_seq ?_
  refine CW_region (l := [_, _, _]) ?_
  refine WL_val rfl (PE_move rfl) ?_
  refine WL_val rfl (PE_len und_sl_uint8 rfl) ?_
  refine WL_val rfl (PE_lss rfl rfl rfl) ?_
  refine WL_nil ?_
  refine QA_seq ?_
  refine CW_cond rfl (fun c1 => ?_) (fun c1 => ?_)
  · have hlt : b.length < 20 := by have h0 : ((b.length : Nat) : Int) < 20 := (by simpa using c1); omega
    have hP : nextP b = none := if_pos hlt
    refine CW_seq ?_
    refine CW_region (l := [_, _, _]) ?_
    refine WL_val rfl (PE_assign rfl) ?_
    refine WL_val rfl (PE_assign rfl) ?_
    refine WL_val rfl (PE_assign rfl) ?_
    refine WL_nil ?_
    refine QA_seq ?_
    refine CW_ret ?_
    refine QA_then_ret ?_
    refine QA_return (rs := [_, _, _]) rfl rfl (IM.le.refl _) (_) (fun _ _ h => h) ?_
    exact ⟨rfl, _, _, by rw [hP]; rfl, fun x r e => by rw [hP] at e; cases e⟩
  · have hge : ¬ b.length < 20 := by have h0 : (20 : Int) ≤ ((b.length : Nat) : Int) := (by simpa using c1); omega
    have h4 : (b.take 4).length = 4 := by simp; omega
    have hob := ofBig_lt (b.take 4)
    rw [h4] at hob
    have ht4 := BySl.take hv (j := 4) (by omega)
    refine CW_skip ?_
    refine QA_seq ?_
    refine CW_seq ?_
    refine CW_region (l := [_, _, _, _, _, _, _, _]) ?_
    refine WL_val rfl (PE_move rfl) ?_
    refine WL_val rfl (PE_sliceTo (h := 4) und_sl_uint8 te_uint8.size rfl rfl rfl (by omega)) ?_
    refine WL_op rfl (OE_call (l := [_]) E_octet_FromBig rfl rfl (fromBig_spec _ _ _ _ (b.take 4) ht4 (by omega))) ?_
    rintro _ I3_2 ah3_2 ⟨_, rfl, _, rfl, rfl, rfl⟩
    refine WL_val rfl (PE_move rfl) ?_
    refine WL_val rfl (PE_extract rfl rfl) ?_
    refine WL_val rfl (PE_extract rfl rfl) ?_
    refine WL_val rfl (PE_assign rfl) ?_
    refine WL_val rfl (PE_assign rfl) ?_
    refine WL_nil ?_
    refine QA_seq ?_
    refine CW_seq ?_
    refine CW_seq ?_
    refine CW_region (l := [_, _, _, _, _, _]) ?_
    refine WL_val rfl (PE_move rfl) ?_
    refine WL_val rfl (PE_move rfl) ?_
    refine WL_val rfl (PE_len und_sl_uint8 rfl) ?_
    refine WL_val rfl (PE_sub (r := ((b.length - 20 : Nat) : Int)) rfl rfl (w64e (by omega) (by omega) (by omega))) ?_
    refine WL_val rfl (PE_convI (r := ((b.length - 20 : Nat) : Int)) und_int und_uint64 rfl (wu64 (by omega) (by omega))) ?_
    refine WL_val rfl (PE_gtr rfl rfl rfl) ?_
    refine WL_nil ?_
    refine QA_seq ?_
    refine CW_cond rfl (fun c2 => ?_) (fun c2 => ?_)
    · have hgt : b.length - 20 < ofBig (b.take 4) := by simpa using c2
      have hP : nextP b = none := by rw [nextP, if_neg hge, if_pos hgt]
      refine CW_seq ?_
      refine CW_region (l := [_, _, _]) ?_
      refine WL_val rfl (PE_assign rfl) ?_
      refine WL_val rfl (PE_assign rfl) ?_
      refine WL_val rfl (PE_assign rfl) ?_
      refine WL_nil ?_
      refine QA_seq ?_
      refine CW_ret ?_
      refine QA_then_ret ?_
      refine QA_return (rs := [_, _, _]) rfl rfl (IM.le.refl _) (_) (fun _ _ h => h) ?_
      exact ⟨rfl, _, _, by rw [hP]; rfl, fun x r e => by rw [hP] at e; cases e⟩
    · have hle : ¬ b.length - 20 < ofBig (b.take 4) := by simpa using c2
      refine CW_skip ?_
      refine QA_seq ?_
      refine CW_seq ?_
      refine CW_drawS (l := [_, _, _, _, _, _, _, _, _, _, _, _]) 12 mixed ?_
      refine WA_take 0 rfl (by kernel_rfl) (by kernel_rfl) (by kernel_rfl) (by kernel_rfl) rfl (by kernel_rfl) rfl (IM.le.refl _) (fun _ _ h => h) (PE_move rfl) ?_
      refine WA_take 1 rfl (by kernel_rfl) (by kernel_rfl) (by kernel_rfl) (by kernel_rfl) rfl (by kernel_rfl) rfl (IM.le.refl _) (fun _ _ h => h) (PE_move rfl) ?_
      refine WA_take 2 rfl (by kernel_rfl) (by kernel_rfl) (by kernel_rfl) (by kernel_rfl) rfl (by kernel_rfl) rfl (IM.le.refl _) (fun _ _ h => h) (PE_convI (r := ((ofBig (b.take 4) : Nat) : Int)) und_uint64 und_int rfl (w64 (by omega) (by omega))) ?_
      refine WA_take 3 rfl (by kernel_rfl) (by kernel_rfl) (by kernel_rfl) (by kernel_rfl) rfl (by kernel_rfl) rfl (IM.le.refl _) (fun _ _ h => h) (PE_add (r := ((20 + ofBig (b.take 4) : Nat) : Int)) rfl rfl (w64e (by push_cast; omega) (by omega) (by omega))) ?_
      refine WA_take 4 rfl (by kernel_rfl) (by kernel_rfl) (by kernel_rfl) (by kernel_rfl) rfl (by kernel_rfl) rfl (IM.le.refl _) (fun _ _ h => h) (PE_sliceAddr (l := some 20) (h := some (20 + ofBig (b.take 4))) und_sl_uint8 te_uint8.size rfl (by omega) ⟨_, rfl, by omega⟩ ⟨_, rfl, by simp⟩) ?_
      refine WA_take 5 rfl (by kernel_rfl) (by kernel_rfl) (by kernel_rfl) (by kernel_rfl) rfl (by kernel_rfl) rfl (IM.le.refl _) (fun _ _ h => h) (PE_move rfl) ?_
      refine WA_take 6 rfl (by kernel_rfl) (by kernel_rfl) (by kernel_rfl) (by kernel_rfl) rfl (by kernel_rfl) rfl (IM.le.refl _) (fun _ _ h => h) (PE_move rfl) ?_
      refine WA_take 7 rfl (by kernel_rfl) (by kernel_rfl) (by kernel_rfl) (by kernel_rfl) rfl (by kernel_rfl) rfl (IM.le.refl _) (fun _ _ h => h) (PE_convI (r := ((ofBig (b.take 4) : Nat) : Int)) und_uint64 und_int rfl (w64 (by omega) (by omega))) ?_
      refine WA_take 8 rfl (by kernel_rfl) (by kernel_rfl) (by kernel_rfl) (by kernel_rfl) rfl (by kernel_rfl) rfl (IM.le.refl _) (fun _ _ h => h) (PE_add (r := ((20 + ofBig (b.take 4) : Nat) : Int)) rfl rfl (w64e (by push_cast; omega) (by omega) (by omega))) ?_
      refine WA_take 9 rfl (by kernel_rfl) (by kernel_rfl) (by kernel_rfl) (by kernel_rfl) rfl (by kernel_rfl) rfl (IM.le.refl _) (fun _ _ h => h) (PE_sliceAddr (l := some (20 + ofBig (b.take 4))) (h := none) und_sl_uint8 te_uint8.size rfl (by omega) trivial ⟨_, rfl, by simp; omega⟩) ?_
      refine WA_take 10 rfl (by kernel_rfl) (by kernel_rfl) (by kernel_rfl) (by kernel_rfl) rfl (by kernel_rfl) rfl (IM.le.refl _) (fun _ _ h => h) (PE_assign rfl) ?_
      refine WA_take 11 rfl (by kernel_rfl) (by kernel_rfl) (by kernel_rfl) (by kernel_rfl) rfl (by kernel_rfl) rfl (IM.le.refl _) (fun _ _ h => h) (PE_assign rfl) ?_
      refine WA_done (by kernel_rfl) ?_
      have hx := BySl.piece hv rfl (i := 20) (j := 20 + ofBig (b.take 4)) (by omega) (by omega)
      have hr := BySl.piece hv rfl (i := 20 + ofBig (b.take 4)) (j := b.length) (Nat.le_refl _) (by omega)
      rw [List.take_of_length_le (l := b.drop (20 + ofBig (b.take 4))) (by rw [List.length_drop]; exact Nat.le_refl _)] at hr
      obtain ⟨L, hL, hx⟩ : ∃ L, L = (b.drop 20).take (ofBig (b.take 4)) ∧ BySl I (.slice (if c = 20 then a else a.map (·.add (20 * 1))) (20 + ofBig (b.take 4) - 20) (c - 20)) L := ⟨_, by rw [show 20 + ofBig (b.take 4) - 20 = ofBig (b.take 4) by omega], hx⟩
      rw [hL] at hx
      have hlx : ((b.drop 20).take (ofBig (b.take 4))).length = ofBig (b.take 4) := by simp; omega
      refine QA_seq ?_
      refine CW_seq ?_
      refine CW_seq ?_
      refine CW_region (l := [_, _, _, _, _, _, _]) ?_
      refine WL_val rfl (PE_move rfl) ?_
      refine WL_val rfl (PE_sliceTo (h := 4) und_sl_uint8 te_uint8.size rfl rfl rfl (by omega)) ?_
      refine WL_val rfl (PE_move rfl) ?_
      refine WL_op rfl (OE_litI (l := [_, _]) (vs := [_, _]) und_sl_sl_uint8 te_sl_uint8 rfl rfl rfl (by simp [Value.cells]) (by decide) rfl rfl) ?_
      rintro _ I7_3 ah7_3 ⟨v7_3, rfl, hI7_3, rfl, hv7_3, hn7_3⟩
      refine WL_op rfl (OE_call (l := [_]) E_sha_Of rfl rfl (of_spec _ _ _ _ [b.take 4, (b.drop 20).take (ofBig (b.take 4))] (Rows.two (ht4.mono hI7_3) (hx.mono hI7_3) hv7_3) (by simp) (by simp; omega))) ?_
      rintro _ I7_4 ah7_4 ⟨_, rfl, hI74, rfl, rfl⟩
      rw [show [b.take 4, (b.drop 20).take (ofBig (b.take 4))].flatten = b.take 4 ++ (b.drop 20).take (ofBig (b.take 4)) by simp]
      have hsl := sha_size (b.take 4 ++ (b.drop 20).take (ofBig (b.take 4)))
      refine WL_op rfl (OE_alloc rfl te_api_Word.zero) ?_
      rintro _ I7_5 ah7_5 ⟨b7_5, rfl, rfl, rfl, hb7_5, hw7_5⟩
      refine WL_op rfl (OE_storeA (us := (sha (b.take 4 ++ (b.drop 20).take (ofBig (b.take 4)))).map bv) ta_api_Word rfl rfl (by simp [hsl]) (bvs_one _) (AH.set_same _ _ _) (by simp [hsl, Value.cells])) ?_
      rintro _ I7_6 ah7_6 ⟨rfl, rfl, rfl⟩
      rw [AH.set_set, splice_all _ _ (by simp [hsl, Value.cells])]
      refine WL_freeze (AH.set_same _ _ _) ?_
      rintro I76 hI76 hz76
      rw [AH.del_set, AH.del_none _ hb7_5]
      generalize hS : sha (b.take 4 ++ (b.drop 20).take (ofBig (b.take 4))) = S at *
      have hsum : BySl I76 (.slice (some ⟨b7_5, 0, none⟩) 16 32) (S.take 16) := by
        have hl16 : (S.take 16).length = 16 := by simp [hsl]
        unfold BySl; rw [hl16]
        refine .inr ⟨b7_5, 0, 32, rfl, by omega, by simp [hsl], fun i u e => ?_⟩
        rw [Nat.zero_add]; refine hz76 i u ?_
        rw [List.map_take, List.getElem?_take] at e
        split at e
        · exact e
        · cases e
      have hI7 := (hI7_3.trans hI74).trans hI76
      have hm := (BySl.piece hv rfl (i := 4) (j := 20) (by omega) (by omega)).mono hI7
      refine WL_nil ?_
      refine QA_seq ?_
      refine CW_seq ?_
      refine CW_drawS (l := [_, _, _, _, _]) 5 mixed ?_
      refine WA_take 0 rfl (by kernel_rfl) (by kernel_rfl) (by kernel_rfl) (by kernel_rfl) rfl (by kernel_rfl) rfl (IM.le.refl _) (fun _ _ h => h) (PE_sliceArr (l := none) (h := some 16) und_api_Word te_uint8.size rfl ⟨_, rfl, by omega⟩ trivial) ?_
      refine WA_take 1 rfl (by kernel_rfl) (by kernel_rfl) (by kernel_rfl) (by kernel_rfl) rfl (by kernel_rfl) rfl (IM.le.refl _) (fun _ _ h => h) (PE_move rfl) ?_
      refine WA_take 2 rfl (by kernel_rfl) (by kernel_rfl) (by kernel_rfl) (by kernel_rfl) rfl (by kernel_rfl) rfl (IM.le.refl _) (fun _ _ h => h) (PE_sliceAddr (l := some 4) (h := some 20) und_sl_uint8 te_uint8.size rfl (by omega) ⟨_, rfl, by omega⟩ ⟨_, rfl, by simp⟩) ?_
      refine WA_op 3 rfl rfl (by kernel_rfl) (OE_call (l := [_, _]) E_bytes_Equal rfl rfl (bequal_spec _ _ _ _ _ (S.take 16) ((b.drop 4).take 16) (hsum.src _) (hm.src _))) ?_ ?_
      · rintro _ I8_3 ah8_3 ⟨_, rfl, _, rfl, rfl, rfl⟩; exact ⟨IM.le.refl _, fun _ _ h => h⟩
      rintro _ I8_3 ah8_3 ⟨_, rfl, _, rfl, rfl, rfl⟩
      refine WA_take 4 rfl (by kernel_rfl) (by kernel_rfl) (by kernel_rfl) (by kernel_rfl) rfl (by kernel_rfl) rfl (IM.le.refl _) (fun _ _ h => h) (PE_un rfl (rfl)) ?_
      refine WA_done (by kernel_rfl) ?_
      refine QA_seq ?_
      refine CW_cond rfl (fun c3 => ?_) (fun c3 => ?_)
      · have hne : ¬ S.take 16 = (b.drop 4).take 16 := by simpa using c3
        have hP : nextP b = none := by rw [nextP, if_neg hge, if_neg hle, hS, if_neg hne]
        refine CW_seq ?_
        refine CW_region (l := [_, _, _]) ?_
        refine WL_val rfl (PE_assign rfl) ?_
        refine WL_val rfl (PE_assign rfl) ?_
        refine WL_val rfl (PE_assign rfl) ?_
        refine WL_nil ?_
        refine QA_seq ?_
        refine CW_ret ?_
        refine QA_then_ret ?_
        refine QA_return (rs := [_, _, _]) rfl rfl (hI7) (_) (fun _ _ h => h) ?_
        exact ⟨rfl, _, _, by rw [hP]; rfl, fun x r e => by rw [hP] at e; cases e⟩
      · have heq : S.take 16 = (b.drop 4).take 16 := by simpa using c3
        have hP : nextP b = some ((b.drop 20).take (ofBig (b.take 4)), b.drop (20 + ofBig (b.take 4))) := by rw [nextP, if_neg hge, if_neg hle, hS, if_pos heq]
        refine CW_skip ?_
        refine QA_seq ?_
        refine CW_seq ?_
        refine CW_region (l := [_, _, _, _, _]) ?_
        refine WL_val rfl (PE_move rfl) ?_
        refine WL_val rfl (PE_move rfl) ?_
        refine WL_val rfl (PE_assign rfl) ?_
        refine WL_val rfl (PE_assign rfl) ?_
        refine WL_val rfl (PE_assign rfl) ?_
        refine WL_nil ?_
        refine QA_seq ?_
        refine CW_ret ?_
        refine QA_return (rs := [_, _, _]) rfl rfl (hI7) (_) (fun _ _ h => h) ?_
        exact ⟨rfl, _, _, by rw [hP]; rfl, fun x r e => by rw [hP] at e; cases e; exact ⟨hx.mono hI7, hr.mono hI7⟩⟩

end Go.Proofs.YthdpebagkfloaaaDoor

