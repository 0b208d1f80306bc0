/- journal: readBase, tidy. -/
import Derived.Test.YthdpebagkfloaaaDoorPQ
namespace Go.Proofs.YthdpebagkfloaaaDoor
open Go Go.RowKit SL
set_option linter.unusedVariables false
set_option linter.unusedSimpArgs false
set_option maxRecDepth 100000
def baseK : ByteArray := ⟨#[98, 97, 115, 101]⟩
def newK : ByteArray := ⟨#[110, 101, 119]⟩
theorem good_base : good baseK = true := rfl
theorem good_new : good newK = true := rfl
theorem codeC_le (c : Cont) (k : ByteArray) : codeC c k ≤ 4 := by unfold codeC; split <;> omega
theorem codeC_none {c : Cont} {k : ByteArray} (h : c k = none) : codeC c k = 4 := by unfold codeC; rw [h]; rfl
theorem codeC_some {c : Cont} {k : ByteArray} {u : List UInt8 × List (List UInt8)} (h : c k = some u) : codeC c k = 0 := by unfold codeC; rw [h]; rfl
theorem codeC_zero {c : Cont} {k : ByteArray} (h : codeC c k = 0) : ∃ u, c k = some u := by
  unfold codeC at h; cases hc : c k with
  | none => rw [hc] at h; cases h
  | some u => exact ⟨u, rfl⟩
theorem nextP_len {b x r : List UInt8} (h : nextP b = some (x, r)) : x.length + r.length + 20 = b.length := by
  unfold nextP at h
  split at h
  · cases h
  · split at h
    · cases h
    · split at h
      · simp only [Option.some.injEq, Prod.mk.injEq] at h
        obtain ⟨rfl, rfl⟩ := h
        simp; omega
      · cases h

theorem readBase0_spec (w0 : World) (I : IM) (ah : AH) (ρ : Roles) (j d room lives : Nat) (c : Cont) (sz : Nat) (s : JS) (hj : JAt ρ I ah j d s) (hd : Dk ρ I ah d room true lives c sz) (hc : c baseK = none) :
    SC P w0 n_journal_Journal_readBase [.pointer (some ⟨j, 0, none⟩)] I ah (fun v I' ah' => IM.le I I' ∧ ah = ah' ∧ v = .int .i64 0) := by
  obtain ⟨bsv, rv, vs, h1, h2, h3, h4, h5⟩ := hj
  refine SC_enter fn_journal_Journal_readBase rfl rfl (Nat.le_of_ble_eq_true rfl) ?_
  refine CW_seq ?_
  refine CW_region (l := [_]) ?_
  refine WL_val rfl (PE_assign rfl) ?_
  refine WL_nil ?_
  refine QA_seq ?_
  refine CW_seq ?_
  refine CW_region (l := [_, _, _, _, _, _, _, _, _, _]) ?_
  refine WL_val rfl (PE_move rfl) ?_
  refine WL_val rfl (PE_nilCheck rfl) ?_
  refine WL_val rfl (PE_fieldAddr fa_journal_Journal_0 rfl) ?_
  refine WL_val rfl (PE_load tc_p_disk_Disk rfl (.own h1 rfl)) ?_
  refine WL_op rfl (OE_call (l := [_, _]) E_disk_Disk_Read rfl rfl (kread hd baseK (by decide) good_base)) ?_
  rintro _ I1_4 ah1_4 ⟨_, rfl, hI1, rfl, v4, rfl, hv4⟩
  rw [codeC_none hc]
  refine WL_val rfl (PE_move rfl) ?_
  refine WL_val rfl (PE_extract rfl rfl) ?_
  refine WL_val rfl (PE_extract rfl rfl) ?_
  refine WL_val rfl (PE_assign rfl) ?_
  refine WL_val rfl (PE_assign rfl) ?_
  refine WL_nil ?_
  refine QA_seq ?_
  refine CW_seq ?_
  refine CW_seq ?_
  refine CW_region (l := [_]) ?_
  refine WL_val rfl (PE_move rfl) ?_
  refine WL_nil ?_
  refine QA_seq ?_
  refine CW_block ?_
  refine CW_seq ?_
  refine CW_region (l := [_, _]) ?_
  refine WL_val rfl (PE_eqi rfl rfl rfl) ?_
  refine WL_val rfl (PE_assign rfl) ?_
  refine WL_nil ?_
  refine QA_seq ?_
  refine CW_false rfl ?_
  refine CW_seq ?_
  refine CW_region (l := [_, _]) ?_
  refine WL_val rfl (PE_eqi rfl rfl rfl) ?_
  refine WL_val rfl (PE_assign rfl) ?_
  refine WL_nil ?_
  refine QA_seq ?_
  refine CW_true rfl ?_
  refine CW_seq ?_
  refine CW_region (l := [_]) ?_
  refine WL_val rfl (PE_assign rfl) ?_
  refine WL_nil ?_
  refine QA_seq ?_
  refine CW_ret ?_
  refine QA_block_ret ?_
  refine QA_then_ret ?_
  refine QA_return (rs := [_]) rfl rfl (hI1) (_) (fun _ _ h => h) ?_
  exact ⟨hI1, rfl, rfl⟩

theorem readBase1_spec (w0 : World) (I : IM) (ah : AH) (ρ : Roles) (j d room lives : Nat) (c : Cont) (sz : Nat) (s : JS) (hj : JAt ρ I ah j d s) (hd : Dk ρ I ah d room true lives c sz) (x : List UInt8) (hs : (c baseK).isSome = true) (hn : nextP (bytesC c baseK) = some (x, [])) (hx : 8 ≤ x.length) :
    SC P w0 n_journal_Journal_readBase [.pointer (some ⟨j, 0, none⟩)] I ah (fun v I' ah' => IM.le I I' ∧ v = .int .i64 0 ∧ Evo ofR ρ ah ρ ah' ∧ JAt ρ I' ah' j d { s with turn := ofBig (x.take 8), base := x.drop 8 }) := by
  obtain ⟨bsv, rv, vs, h1, h2, h3, h4, h5⟩ := hj
  have hfile := hd.file baseK
  have hcode : codeC c baseK = 0 := by unfold codeC; rw [hs]; rfl
  have hxl : x.length ≤ 1048576 := by have := nextP_len hn; omega
  refine SC_enter fn_journal_Journal_readBase rfl rfl (Nat.le_of_ble_eq_true rfl) ?_
  refine CW_seq ?_
  refine CW_region (l := [_]) ?_
  refine WL_val rfl (PE_assign rfl) ?_
  refine WL_nil ?_
  refine QA_seq ?_
  refine CW_seq ?_
  refine CW_region (l := [_, _, _, _, _, _, _, _, _, _]) ?_
  refine WL_val rfl (PE_move rfl) ?_
  refine WL_val rfl (PE_nilCheck rfl) ?_
  refine WL_val rfl (PE_fieldAddr fa_journal_Journal_0 rfl) ?_
  refine WL_val rfl (PE_load tc_p_disk_Disk rfl (.own h1 rfl)) ?_
  refine WL_op rfl (OE_call (l := [_, _]) E_disk_Disk_Read rfl rfl (kread hd baseK (by decide) good_base)) ?_
  rintro _ I1_4 ah1_4 ⟨_, rfl, hI1, rfl, v4, rfl, hv4⟩
  rw [hcode]
  refine WL_val rfl (PE_move rfl) ?_
  refine WL_val rfl (PE_extract rfl rfl) ?_
  refine WL_val rfl (PE_extract rfl rfl) ?_
  refine WL_val rfl (PE_assign rfl) ?_
  refine WL_val rfl (PE_assign rfl) ?_
  refine WL_nil ?_
  refine QA_seq ?_
  refine CW_seq ?_
  refine CW_seq ?_
  refine CW_region (l := [_]) ?_
  refine WL_val rfl (PE_move rfl) ?_
  refine WL_nil ?_
  refine QA_seq ?_
  refine CW_block ?_
  refine CW_seq ?_
  refine CW_region (l := [_, _]) ?_
  refine WL_val rfl (PE_eqi rfl rfl rfl) ?_
  refine WL_val rfl (PE_assign rfl) ?_
  refine WL_nil ?_
  refine QA_seq ?_
  refine CW_true rfl ?_
  refine CW_skip ?_
  refine QA_block_normal ?_
  refine QA_seq ?_
  refine CW_seq ?_
  refine CW_region (l := [_, _, _, _, _, _, _, _, _]) ?_
  refine WL_val rfl (PE_move rfl) ?_
  refine WL_op rfl (OE_call (l := [_]) E_journal_next rfl rfl (next_spec _ _ _ _ (bytesC c baseK) hv4 hfile)) ?_
  rintro _ I7_1 ah7_1 ⟨_, rfl, hI7, rfl, xv, rv7, rfl, hxr⟩
  rw [hn]
  obtain ⟨hx7, hr7⟩ := hxr x [] hn
  obtain ⟨xa, xc, rfl, hxc, _⟩ := hx7.form
  obtain ⟨ra, rc, rfl, _⟩ := hr7.form
  refine WL_val rfl (PE_move rfl) ?_
  refine WL_val rfl (PE_extract rfl rfl) ?_
  refine WL_val rfl (PE_extract rfl rfl) ?_
  refine WL_val rfl (PE_extract rfl rfl) ?_
  refine WL_val rfl (PE_assign rfl) ?_
  refine WL_val rfl (PE_assign rfl) ?_
  refine WL_val rfl (PE_assign rfl) ?_
  refine WL_nil ?_
  refine QA_seq ?_
  refine CW_seq ?_
  refine CW_seq ?_
  refine CW_region (l := [_, _, _, _, _, _, _, _, _, _, _, _]) ?_
  refine WL_val rfl (PE_move rfl) ?_
  refine WL_val rfl (PE_un rfl (rfl)) ?_
  refine WL_val rfl (PE_move rfl) ?_
  refine WL_gon rfl rfl rfl ?_
  refine WL_val rfl (PE_move rfl) ?_
  refine WL_gon rfl rfl rfl ?_
  refine WL_val rfl (PE_len und_sl_uint8 rfl) ?_
  refine WL_gon rfl rfl rfl ?_
  refine WL_val rfl (PE_gtr (b := false) rfl rfl rfl) ?_
  refine WL_val rfl (PE_pick rfl (fun _ => rfl) (fun _ => rfl)) ?_
  refine WL_val rfl (PE_move rfl) ?_
  refine WL_gon rfl rfl rfl ?_
  refine WL_val rfl (PE_move rfl) ?_
  refine WL_gon rfl rfl rfl ?_
  refine WL_val rfl (PE_len und_sl_uint8 rfl) ?_
  refine WL_gon rfl rfl rfl ?_
  refine WL_val rfl (PE_lss (b := false) rfl rfl (by simp; omega)) ?_
  refine WL_val rfl (PE_pick rfl (fun _ => rfl) (fun _ => rfl)) ?_
  refine WL_nil ?_
  refine QA_seq ?_
  refine CW_false rfl ?_
  refine CW_skip ?_
  refine QA_seq ?_
  refine CW_seq ?_
  refine CW_region (l := [_, _, _, _, _, _, _, _, _, _]) ?_
  refine WL_val rfl (PE_move rfl) ?_
  refine WL_val rfl (PE_move rfl) ?_
  refine WL_val rfl (PE_sliceTo (h := 8) und_sl_uint8 te_uint8.size rfl rfl rfl (by omega)) ?_
  refine WL_op rfl (OE_call (l := [_]) E_octet_FromBig rfl rfl (fromBig_spec _ _ _ _ (x.take 8) (BySl.take hx7 (by omega)) (by simp; omega))) ?_
  rintro _ I10_3 ah10_3 ⟨_, rfl, _, rfl, rfl, rfl⟩
  refine WL_val rfl (PE_move rfl) ?_
  refine WL_val rfl (PE_extract rfl rfl) ?_
  refine WL_val rfl (PE_extract rfl rfl) ?_
  refine WL_val rfl (PE_nilCheck rfl) ?_
  refine WL_val rfl (PE_fieldAddr fa_journal_Journal_2 rfl) ?_
  refine WL_op rfl (OE_store tc_uint64 rfl rfl rfl h1 (by simp)) ?_
  rintro _ I10_9 ah10_9 ⟨rfl, rfl, rfl⟩
  refine WL_nil ?_
  refine QA_seq ?_
  refine CW_seq ?_
  refine CW_region (l := [_, _, _, _, _, _, _]) ?_
  refine WL_val rfl (PE_move rfl) ?_
  refine WL_val rfl (PE_move rfl) ?_
  refine WL_val rfl (PE_sliceFrom (l := 8) und_sl_uint8 te_uint8.size rfl rfl rfl (by omega)) ?_
  have hxd := BySl.piece hx7 rfl (i := 8) (j := x.length) (Nat.le_refl _) (by omega)
  rw [List.take_of_length_le (l := x.drop 8) (by rw [List.length_drop]; exact Nat.le_refl _)] at hxd
  refine WL_op rfl (OE_call (l := [_]) E_bytes_Clone rfl rfl (bclone_spec _ _ _ _ (x.drop 8) hxd (by simp; omega))) ?_
  rintro _ I11_3 ah11_3 ⟨v11, rfl, hI11, ho11, _⟩
  refine WL_forget (Own.base ho11) ?_
  have hs11 := ho11.sl
  clear ho11
  obtain ⟨va, vc, rfl, _⟩ := SlI.form hs11
  refine WL_val rfl (PE_nilCheck rfl) ?_
  refine WL_val rfl (PE_fieldAddr fa_journal_Journal_5 rfl) ?_
  refine WL_op rfl (OE_store tc_sl_uint8 rfl rfl rfl (AH.set_same _ _ _) (by simp)) ?_
  rintro _ I11_6 ah11_6 ⟨rfl, rfl, rfl⟩
  refine WL_nil ?_
  refine QA_seq ?_
  refine CW_seq ?_
  refine CW_region (l := [_]) ?_
  refine WL_val rfl (PE_assign rfl) ?_
  refine WL_nil ?_
  refine QA_seq ?_
  refine CW_ret ?_
  refine QA_return (rs := [_]) rfl rfl ((hI1.trans hI7).trans hI11) (_) (fun _ _ h => h) ?_
  rw [AH.set_set]
  have hII := (hI1.trans hI7).trans hI11
  exact ⟨hII, rfl, Evo.set _ (.inl h2), JAt.put (s := { s with turn := ofBig (x.take 8), base := x.drop 8 }) h2 hs11 (h4.mono hII) (h5.mono hII)⟩

end Go.Proofs.YthdpebagkfloaaaDoor

