/- journal: Sync, Keep. -/
import Derived.Test.YthdpebagkfloaaaDoorPV
namespace Go.Proofs.YthdpebagkfloaaaDoor
open Go Go.RowKit SL
set_option linter.unusedVariables false
set_option linter.unusedSimpArgs false
set_option maxRecDepth 100000

theorem jsyncOff_spec (w0 : World) (I : IM) (ah : AH) (ρ : Roles) (j d room lives : Nat) (on : Bool) (c : Cont) (sz : Nat) (s : JS) (hj : JAt ρ I ah j d s) (hd : Dk ρ I ah d room on lives c sz) (hdn : (s.full || !on || decide (lives ≠ s.lives)) = true) :
    SC P w0 n_journal_Journal_Sync [.pointer (some ⟨j, 0, none⟩)] I ah (fun v I' ah' => I = I' ∧ ah = ah' ∧ v = .int .i64 7) := by
  refine SC_enter fn_journal_Journal_Sync rfl rfl (Nat.le_of_ble_eq_true rfl) ?_
  refine CW_seq ?_
  refine CW_region (l := [_]) ?_
  refine WL_val rfl (PE_assign rfl) ?_
  refine WL_nil ?_
  refine QA_seq ?_
  refine CW_seq ?_
  refine CW_seq ?_
  refine CW_region (l := [_, _]) ?_
  refine WL_val rfl (PE_move rfl) ?_
  refine WL_op rfl (OE_call (l := [_]) E_journal_Journal_Done rfl rfl (done_spec _ _ _ ρ j d room lives on c sz s hj hd)) ?_
  rintro _ I1_1 ah1_1 ⟨_, rfl, _, rfl, rfl, rfl⟩
  rw [hdn]
  refine WL_nil ?_
  refine QA_seq ?_
  refine CW_true rfl ?_
  refine CW_seq ?_
  refine CW_region (l := [_]) ?_
  refine WL_val rfl (PE_assign rfl) ?_
  refine WL_nil ?_
  refine QA_seq ?_
  refine CW_ret ?_
  refine QA_then_ret ?_
  refine QA_return (rs := [_]) rfl rfl (IM.le.refl _) (_) (fun _ _ h => h) ?_
  exact ⟨rfl, rfl, rfl⟩

theorem jsync_spec (w0 : World) (I : IM) (ah : AH) (ρ : Roles) (j d room lives : Nat) (c : Cont) (sz : Nat) (s : JS) (hj : JAt ρ I ah j d s) (hd : Dk ρ I ah d room true lives c sz) (hdf : s.full = false) (hdl : s.lives = lives) (ht : s.turn < 36 ^ 12) (hp : s.part < 36 ^ 12) (hg : good (pname s.turn s.part) = true) (hw : s.wr = true → (c (pname s.turn s.part)).isSome = true) :
    SC P w0 n_journal_Journal_Sync [.pointer (some ⟨j, 0, none⟩)] I ah (fun v I' ah' => IM.le I I' ∧ v = .int .i64 0 ∧ ∃ ρ', Evo ofD ρ ah ρ' ah' ∧ JAt ρ' I' ah' j d s ∧ Dk ρ' I' ah' d room true lives (if s.wr = true then syncC c (pname s.turn s.part) else c) sz) := by
  have hj0 := hj
  obtain ⟨bsv, rv, vs, h1, h2, h3, h4, h5⟩ := hj0
  refine SC_enter fn_journal_Journal_Sync rfl rfl (Nat.le_of_ble_eq_true rfl) ?_
  refine CW_seq ?_
  refine CW_region (l := [_]) ?_
  refine WL_val rfl (PE_assign rfl) ?_
  refine WL_nil ?_
  refine QA_seq ?_
  refine CW_seq ?_
  refine CW_seq ?_
  refine CW_region (l := [_, _]) ?_
  refine WL_val rfl (PE_move rfl) ?_
  refine WL_op rfl (OE_call (l := [_]) E_journal_Journal_Done rfl rfl (done_spec _ _ _ ρ j d room lives true c sz s hj hd)) ?_
  rintro _ I1_1 ah1_1 ⟨_, rfl, _, rfl, rfl, rfl⟩
  rw [done_not hdf hdl]
  refine WL_nil ?_
  refine QA_seq ?_
  refine CW_false rfl ?_
  refine CW_skip ?_
  refine QA_seq ?_
  refine CW_seq ?_
  refine CW_seq ?_
  refine CW_region (l := [_, _, _, _]) ?_
  refine WL_val rfl (PE_move rfl) ?_
  refine WL_val rfl (PE_nilCheck rfl) ?_
  refine WL_val rfl (PE_fieldAddr fa_journal_Journal_4 rfl) ?_
  refine WL_val rfl (PE_load tc_bool rfl (.own h1 rfl)) ?_
  refine WL_nil ?_
  refine QA_seq ?_
  refine CW_cond rfl (fun c2 => ?_) (fun c2 => ?_)
  · have hwr : s.wr = true := c2
    obtain ⟨u, hu⟩ := Option.isSome_iff_exists.1 (hw hwr)
    refine CW_seq ?_
    refine CW_draw (l := [_, _, _, _, _, _, _, _, _, _, _, _, _, _, _]) 15 (only ah j) mixed ?_
    refine WA_take 0 rfl (by kernel_rfl) (by kernel_rfl) (by kernel_rfl) (by kernel_rfl) rfl (by kernel_rfl) rfl (IM.le.refl _) (only_sub) (PE_move rfl) ?_
    refine WA_take 1 rfl (by kernel_rfl) (by kernel_rfl) (by kernel_rfl) (by kernel_rfl) rfl (by kernel_rfl) rfl (IM.le.refl _) (only_sub) (PE_nilCheck rfl) ?_
    refine WA_take 2 rfl (by kernel_rfl) (by kernel_rfl) (by kernel_rfl) (by kernel_rfl) rfl (by kernel_rfl) rfl (IM.le.refl _) (only_sub) (PE_fieldAddr fa_journal_Journal_0 rfl) ?_
    refine WA_take 3 rfl (by kernel_rfl) (by kernel_rfl) (by kernel_rfl) (by kernel_rfl) rfl (by kernel_rfl) rfl (IM.le.refl _) (only_sub) (PE_load tc_p_disk_Disk rfl (.own (only_at h1) rfl)) ?_
    refine WA_take 4 rfl (by kernel_rfl) (by kernel_rfl) (by kernel_rfl) (by kernel_rfl) rfl (by kernel_rfl) rfl (IM.le.refl _) (only_sub) (PE_move rfl) ?_
    refine WA_take 5 rfl (by kernel_rfl) (by kernel_rfl) (by kernel_rfl) (by kernel_rfl) rfl (by kernel_rfl) rfl (IM.le.refl _) (only_sub) (PE_nilCheck rfl) ?_
    refine WA_take 6 rfl (by kernel_rfl) (by kernel_rfl) (by kernel_rfl) (by kernel_rfl) rfl (by kernel_rfl) rfl (IM.le.refl _) (only_sub) (PE_fieldAddr fa_journal_Journal_2 rfl) ?_
    refine WA_take 7 rfl (by kernel_rfl) (by kernel_rfl) (by kernel_rfl) (by kernel_rfl) rfl (by kernel_rfl) rfl (IM.le.refl _) (only_sub) (PE_load tc_uint64 rfl (.own (only_at h1) rfl)) ?_
    refine WA_take 8 rfl (by kernel_rfl) (by kernel_rfl) (by kernel_rfl) (by kernel_rfl) rfl (by kernel_rfl) rfl (IM.le.refl _) (only_sub) (PE_move rfl) ?_
    refine WA_take 9 rfl (by kernel_rfl) (by kernel_rfl) (by kernel_rfl) (by kernel_rfl) rfl (by kernel_rfl) rfl (IM.le.refl _) (only_sub) (PE_nilCheck rfl) ?_
    refine WA_take 10 rfl (by kernel_rfl) (by kernel_rfl) (by kernel_rfl) (by kernel_rfl) rfl (by kernel_rfl) rfl (IM.le.refl _) (only_sub) (PE_fieldAddr fa_journal_Journal_3 rfl) ?_
    refine WA_take 11 rfl (by kernel_rfl) (by kernel_rfl) (by kernel_rfl) (by kernel_rfl) rfl (by kernel_rfl) rfl (IM.le.refl _) (only_sub) (PE_load tc_int rfl (.own (only_at h1) rfl)) ?_
    refine WA_op 12 rfl rfl (by kernel_rfl) (OE_call (l := [_, _]) E_journal_name rfl rfl (name_spec _ _ _ s.turn s.part ht hp)) ?_ ?_
    · rintro _ I4_12 ah4_12 ⟨_, rfl, _, rfl, rfl, rfl⟩; exact ⟨IM.le.refl _, only_sub⟩
    rintro _ I4_12 ah4_12 ⟨_, rfl, _, rfl, rfl, rfl⟩
    refine WA_op 13 rfl rfl (by kernel_rfl) (OE_call (l := [_, _]) E_disk_Disk_Sync rfl rfl (ksync hd (pname s.turn s.part) (pname_size _ _ ht hp) hg)) ?_ ?_
    · rintro _ I4_13 ah4_13 ⟨_, rfl, hI4, _, rfl, ρ4, he4, hd4⟩; exact ⟨hI4, only_evo he4 (by rw [h2]; simp [ofD])⟩
    rintro _ I4_13 ah4_13 ⟨_, rfl, hI4, _, rfl, ρ4, he4, hd4⟩
    rw [codeC_some hu]
    refine WA_take 14 rfl (by kernel_rfl) (by kernel_rfl) (by kernel_rfl) (by kernel_rfl) rfl (by kernel_rfl) rfl (hI4) (only_evo he4 (by rw [h2]; simp [ofD])) (PE_assign rfl) ?_
    refine WA_done (by kernel_rfl) ?_
    refine QA_seq ?_
    refine CW_ret ?_
    refine QA_then_ret ?_
    refine QA_return (rs := [_]) rfl rfl (hI4) (_) (fun _ _ h => h) ?_
    exact ⟨hI4, rfl, ρ4, he4, (hj.mono hI4).dsk he4, by rw [if_pos hwr]; exact hd4⟩
  · have hwr : s.wr = false := c2
    refine CW_skip ?_
    refine QA_seq ?_
    refine CW_seq ?_
    refine CW_region (l := [_]) ?_
    refine WL_val rfl (PE_assign rfl) ?_
    refine WL_nil ?_
    refine QA_seq ?_
    refine CW_ret ?_
    refine QA_return (rs := [_]) rfl rfl (IM.le.refl _) (_) (fun _ _ h => h) ?_
    exact ⟨IM.le.refl _, rfl, ρ, Evo.refl _ _ _, hj, by rw [if_neg (by rw [hwr]; simp)]; exact hd⟩

def keptF (t : Nat) (bs : List UInt8) : List UInt8 := frameB (bigB t 8 ++ bs)
def keptC (c : Cont) (t : Nat) (bs : List UInt8) : Cont := c.set baseK (some (keptF t bs, []))
def keptJ (s : JS) (bs : List UInt8) : JS := { s with turn := s.turn + 1, part := 0, wr := false, base := bs, recs := [] }
theorem Cont.set_same (c : Cont) (k : ByteArray) (v : Option (List UInt8 × List (List UInt8))) : (c.set k v) k = v := by unfold Cont.set; rw [if_pos rfl]
theorem Cont.set_ne (c : Cont) {k i : ByteArray} (v : Option (List UInt8 × List (List UInt8))) (h : i ≠ k) : (c.set k v) i = c i := by unfold Cont.set; rw [if_neg h]
theorem Cont.set_set (c : Cont) (k : ByteArray) (v u : Option (List UInt8 × List (List UInt8))) : (c.set k v).set k u = c.set k u := by
  funext i; unfold Cont.set; split <;> rfl
theorem synced_new {c : Cont} {F : List UInt8} (h : c newK = none) : syncC (c.set newK (grown (c newK) F)) newK = c.set newK (some (F, [])) := by
  unfold syncC
  rw [Cont.set_same, h]
  simp only [grown, Cont.set_set]
  simp
theorem new_ne_base : (newK : ByteArray) ≠ baseK := by
  intro h
  have := congrArg ByteArray.size h
  cases this
theorem renamed_new {c : Cont} {F : List UInt8} (h : c newK = none) : ((c.set newK (some (F, []))).set newK none).set baseK (some (F, [])) = c.set baseK (some (F, [])) := by
  rw [Cont.set_set, Cont.set_none h]

theorem keepLimit_spec (w0 : World) (I : IM) (ah : AH) (ρ : Roles) (j d room lives : Nat) (on : Bool) (c : Cont) (sz : Nat) (s : JS) (hj : JAt ρ I ah j d s) (hd : Dk ρ I ah d room on lives c sz) (hdn : (s.full || !on || decide (lives ≠ s.lives)) = false) (v : Value) (bs : List UInt8) (hv : BySl I v bs) (hb : 65536 < bs.length) :
    SC P w0 n_journal_Journal_Keep [.pointer (some ⟨j, 0, none⟩), v] I ah (fun v I' ah' => I = I' ∧ ah = ah' ∧ v = .int .i64 2) := by
  obtain ⟨ba, bc, rfl, _⟩ := hv.form
  refine SC_enter fn_journal_Journal_Keep rfl rfl (Nat.le_of_ble_eq_true rfl) ?_
  refine CW_seq ?_
  refine CW_region (l := [_]) ?_
  refine WL_val rfl (PE_assign rfl) ?_
  refine WL_nil ?_
  refine QA_seq ?_
  refine CW_seq ?_
  refine CW_block ?_
  refine CW_seq ?_
  refine CW_region (l := [_, _, _]) ?_
  refine WL_val rfl (PE_move rfl) ?_
  refine WL_op rfl (OE_call (l := [_]) E_journal_Journal_Done rfl rfl (done_spec _ _ _ ρ j d room lives on c sz s hj hd)) ?_
  rintro _ I1_1 ah1_1 ⟨_, rfl, _, rfl, rfl, rfl⟩
  rw [hdn]
  refine WL_val rfl (PE_assign rfl) ?_
  refine WL_nil ?_
  refine QA_seq ?_
  refine CW_false rfl ?_
  refine CW_seq ?_
  refine CW_region (l := [_, _, _, _]) ?_
  refine WL_val rfl (PE_move rfl) ?_
  refine WL_val rfl (PE_len und_sl_uint8 rfl) ?_
  refine WL_val rfl (PE_gtr (b := true) rfl rfl (by simp; omega)) ?_
  refine WL_val rfl (PE_assign rfl) ?_
  refine WL_nil ?_
  refine QA_seq ?_
  refine CW_true rfl ?_
  refine CW_seq ?_
  refine CW_region (l := [_]) ?_
  refine WL_val rfl (PE_assign rfl) ?_
  refine WL_nil ?_
  refine QA_seq ?_
  refine CW_ret ?_
  refine QA_block_ret ?_
  refine QA_then_ret ?_
  refine QA_return (rs := [_]) rfl rfl (IM.le.refl _) (_) (fun _ _ h => h) ?_
  exact ⟨rfl, rfl, rfl⟩

theorem keep_spec (w0 : World) (I : IM) (ah : AH) (ρ : Roles) (j d room lives : Nat) (c : Cont) (sz : Nat) (s : JS) (hj : JAt ρ I ah j d s) (hd : Dk ρ I ah d room true lives c sz) (hdf : s.full = false) (hdl : s.lives = lives) (v : Value) (bs : List UInt8) (hv : BySl I v bs) (hb : bs.length ≤ 65536) (hnew : c newK = none) (hroom : sz + (bs.length + 28) ≤ room)
    (n : Nat) (ht : s.turn < 36 ^ 11) (hn : n < 36 ^ 11) (hg : ∀ p, p ≤ n → good (pname s.turn p) = true) (hs : ∀ p, p < n → (tidyC (keptC c (s.turn + 1) bs) s.turn p (pname s.turn p)).isSome = true) (h0 : tidyC (keptC c (s.turn + 1) bs) s.turn n (pname s.turn n) = none) :
    SC P w0 n_journal_Journal_Keep [.pointer (some ⟨j, 0, none⟩), v] I ah (fun v I' ah' => IM.le I I' ∧ v = .int .i64 0 ∧ ∃ ρ', Evo ofJ ρ ah ρ' ah' ∧ JAt ρ' I' ah' j d (keptJ s bs) ∧ Dk ρ' I' ah' d room true lives (tidyC (keptC c (s.turn + 1) bs) s.turn n) (sz + (bs.length + 28))) := by
  obtain ⟨ba, bc, rfl, _⟩ := hv.form
  have hj0 := hj
  obtain ⟨bsv, rv, vs, h1, h2, h3, h4, h5⟩ := hj0
  have hl8 := bigB_len (s.turn + 1) 8
  have hkl : (keptF (s.turn + 1) bs).length = bs.length + 28 := by simp [keptF, frameB_len, bigB_len]; omega
  refine SC_enter fn_journal_Journal_Keep rfl rfl (Nat.le_of_ble_eq_true rfl) ?_
  refine CW_seq ?_
  refine CW_region (l := [_]) ?_
  refine WL_val rfl (PE_assign rfl) ?_
  refine WL_nil ?_
  refine QA_seq ?_
  refine CW_seq ?_
  refine CW_block ?_
  refine CW_seq ?_
  refine CW_region (l := [_, _, _]) ?_
  refine WL_val rfl (PE_move rfl) ?_
  refine WL_op rfl (OE_call (l := [_]) E_journal_Journal_Done rfl rfl (done_spec _ _ _ ρ j d room lives true c sz s hj hd)) ?_
  rintro _ I1_1 ah1_1 ⟨_, rfl, _, rfl, rfl, rfl⟩
  rw [done_not hdf hdl]
  refine WL_val rfl (PE_assign rfl) ?_
  refine WL_nil ?_
  refine QA_seq ?_
  refine CW_false rfl ?_
  refine CW_seq ?_
  refine CW_region (l := [_, _, _, _]) ?_
  refine WL_val rfl (PE_move rfl) ?_
  refine WL_val rfl (PE_len und_sl_uint8 rfl) ?_
  refine WL_val rfl (PE_gtr (b := false) rfl rfl (by simp; omega)) ?_
  refine WL_val rfl (PE_assign rfl) ?_
  refine WL_nil ?_
  refine QA_seq ?_
  refine CW_false rfl ?_
  refine CW_skip ?_
  refine QA_block_normal ?_
  refine QA_seq ?_
  refine CW_seq ?_
  refine CW_region (l := [_, _, _, _, _, _, _, _, _]) ?_
  refine WL_val rfl (PE_move rfl) ?_
  refine WL_val rfl (PE_nilCheck rfl) ?_
  refine WL_val rfl (PE_fieldAddr fa_journal_Journal_2 rfl) ?_
  refine WL_val rfl (PE_load tc_uint64 rfl (.own h1 rfl)) ?_
  refine WL_val rfl (PE_add (r := ((s.turn + 1 : Nat) : Int)) rfl rfl (wu64e (by push_cast; rfl) (by omega) (by omega))) ?_
  refine WL_op rfl (OE_call (l := [_, _, _]) E_octet_Big rfl rfl (big_spec _ _ _ _ [] (s.turn + 1) 8 (BySl.nil _) (by simp) (by decide))) ?_
  rintro _ I5_5 ah5_5 ⟨v5, rfl, hI5, ho5⟩
  rw [List.nil_append] at ho5
  obtain ⟨ha, hc5, rfl, _⟩ := SlI.form ho5.sl
  refine WL_val rfl (PE_move rfl) ?_
  refine WL_op rfl (OE_append (n := (bigB (s.turn + 1) 8).length) (m := bs.length) (vs := (bigB (s.turn + 1) 8).map bv) (us := bs.map bv) und_sl_uint8 ⟨_, und_sl_uint8⟩ te_uint8 rfl rfl rfl ho5 ((hv.mono hI5).src _) (bvs_one _) (by decide) (by omega) (by omega)) ?_
  rintro _ I5_7 ah5_7 ⟨v5_7, rfl, hI5_7, hv5_7, hn5_7⟩
  have hv5 := (OwnB.of hv5_7 rfl).sl
  refine WL_forget (fun b x e => Own.base hv5_7 b x e) ?_
  obtain ⟨va, vc, rfl, _⟩ := SlI.form hv5
  have hd5 := hd.mono (hI5.trans hI5_7)
  have hj5 := hj.mono (hI5.trans hI5_7)
  refine WL_val rfl (PE_assign rfl) ?_
  refine WL_nil ?_
  refine QA_seq ?_
  refine CW_seq ?_
  refine CW_seq ?_
  refine CW_draw (l := [_, _, _, _, _, _, _, _]) 8 (only ah j) mixed ?_
  refine WA_take 0 rfl (by kernel_rfl) (by kernel_rfl) (by kernel_rfl) (by kernel_rfl) rfl (by kernel_rfl) rfl (IM.le.refl _) (only_sub) (PE_move rfl) ?_
  refine WA_take 1 rfl (by kernel_rfl) (by kernel_rfl) (by kernel_rfl) (by kernel_rfl) rfl (by kernel_rfl) rfl (IM.le.refl _) (only_sub) (PE_nilCheck rfl) ?_
  refine WA_take 2 rfl (by kernel_rfl) (by kernel_rfl) (by kernel_rfl) (by kernel_rfl) rfl (by kernel_rfl) rfl (IM.le.refl _) (only_sub) (PE_fieldAddr fa_journal_Journal_0 rfl) ?_
  refine WA_take 3 rfl (by kernel_rfl) (by kernel_rfl) (by kernel_rfl) (by kernel_rfl) rfl (by kernel_rfl) rfl (IM.le.refl _) (only_sub) (PE_load tc_p_disk_Disk rfl (.own (only_at h1) rfl)) ?_
  refine WA_take 4 rfl (by kernel_rfl) (by kernel_rfl) (by kernel_rfl) (by kernel_rfl) rfl (by kernel_rfl) rfl (IM.le.refl _) (only_sub) (PE_move rfl) ?_
  refine WA_op 5 rfl rfl (by kernel_rfl) (OE_call (l := [_]) E_journal_frame rfl rfl (frame_spec _ _ _ _ (bigB (s.turn + 1) 8 ++ bs) hv5 (by simp [hl8]; omega))) ?_ ?_
  · rintro _ I6_5 ah6_5 ⟨v6, rfl, hI6, rfl, hv6⟩; exact ⟨hI6, only_sub⟩
  rintro _ I6_5 ah6_5 ⟨v6, rfl, hI6, rfl, hv6⟩
  refine WA_op 6 rfl rfl (by kernel_rfl) (OE_call (l := [_, _, _]) E_disk_Disk_Append rfl rfl (dappend_spec _ _ _ ρ d room lives c sz (hd5.mono hI6) newK (by decide) good_new _ (keptF (s.turn + 1) bs) hv6 (by intro h; rw [h] at hkl; simp at hkl) (by omega))) ?_ ?_
  · rintro _ I6_6 ah6_6 ⟨_, rfl, hI66, _, rfl, ρ6, he6, hd6⟩; exact ⟨hI6.trans hI66, only_evo he6 (by rw [h2]; simp [ofD])⟩
  rintro _ I6_6 ah6_6 ⟨_, rfl, hI66, _, rfl, ρ6, he6, hd6⟩
  have hj6 := (hj5.mono (hI6.trans hI66)).dsk he6
  rw [hkl] at hd6
  refine WA_take 7 rfl (by kernel_rfl) (by kernel_rfl) (by kernel_rfl) (by kernel_rfl) rfl (by kernel_rfl) rfl (hI6.trans hI66) (only_evo he6 (by rw [h2]; simp [ofD])) (PE_assign rfl) ?_
  refine WA_done (by kernel_rfl) ?_
  refine QA_seq ?_
  refine CW_seq ?_
  refine CW_region (l := [_, _]) ?_
  refine WL_val rfl (PE_move rfl) ?_
  refine WL_val rfl (PE_nei rfl rfl rfl) ?_
  refine WL_nil ?_
  refine QA_seq ?_
  refine CW_false rfl ?_
  refine CW_skip ?_
  refine QA_seq ?_
  refine CW_seq ?_
  have hj6' := hj6
  obtain ⟨bsv6, rv6, vs6, j1, j2, j3, j4, j5⟩ := hj6'
  refine CW_region (l := [_, _, _, _, _]) ?_
  refine WL_val rfl (PE_move rfl) ?_
  refine WL_val rfl (PE_nilCheck rfl) ?_
  refine WL_val rfl (PE_fieldAddr fa_journal_Journal_0 rfl) ?_
  refine WL_val rfl (PE_load tc_p_disk_Disk rfl (.own j1 rfl)) ?_
  refine WL_op rfl (OE_call (l := [_, _]) E_disk_Disk_Sync rfl rfl (ksync hd6 newK (by decide) good_new)) ?_
  rintro _ I9_4 ah9_4 ⟨_, rfl, hI9, _, rfl, ρ9, he9, hd9⟩
  rw [synced_new hnew] at hd9
  have hj9 := (hj6.mono hI9).dsk he9
  have hj9' := hj9
  obtain ⟨bsv9, rv9, vs9, k1, k2, k3, k4, k5⟩ := hj9'
  refine WL_nil ?_
  refine QA_seq ?_
  refine CW_seq ?_
  refine CW_region (l := [_, _, _, _, _]) ?_
  refine WL_val rfl (PE_move rfl) ?_
  refine WL_val rfl (PE_nilCheck rfl) ?_
  refine WL_val rfl (PE_fieldAddr fa_journal_Journal_0 rfl) ?_
  refine WL_val rfl (PE_load tc_p_disk_Disk rfl (.own k1 rfl)) ?_
  refine WL_op rfl (OE_call (l := [_, _, _]) E_disk_Disk_Rename rfl rfl (rename_spec _ _ _ ρ9 d room lives _ _ hd9 newK baseK (by decide) (by decide) good_new good_base (Ne.symm new_ne_base) (keptF (s.turn + 1) bs, []) (Cont.set_same _ _ _))) ?_
  rintro _ I10_4 ah10_4 ⟨_, rfl, hI10, _, rfl, he10, hd10⟩
  rw [renamed_new hnew] at hd10
  have hj10 := (hj9.mono hI10).dsk he10
  have hj10' := hj10
  obtain ⟨bsvA, rvA, vsA, a1, a2, a3, a4, a5⟩ := hj10'
  refine WL_nil ?_
  refine QA_seq ?_
  refine CW_seq ?_
  refine CW_region (l := [_, _, _, _, _, _]) ?_
  refine WL_val rfl (PE_move rfl) ?_
  refine WL_val rfl (PE_move rfl) ?_
  refine WL_val rfl (PE_nilCheck rfl) ?_
  refine WL_val rfl (PE_fieldAddr fa_journal_Journal_2 rfl) ?_
  refine WL_val rfl (PE_load tc_uint64 rfl (.own a1 rfl)) ?_
  refine WL_op rfl (OE_call (l := [_, _]) E_journal_Journal_tidy rfl rfl (tidy_spec _ _ _ ρ9 j d room lives _ _ _ hj10 hd10 s.turn n (by omega) hn hg hs h0)) ?_
  rintro _ I11_5 ah11_5 ⟨_, rfl, hI11, _, ρB, he11, hd11⟩
  have hjB := (hj10.mono hI11).dsk he11
  obtain ⟨bsvB, rvB, vsB, b1, b2, b3, b4, b5⟩ := hjB
  have hII := (((((hI5.trans hI5_7).trans (hI6.trans hI66)).trans hI9).trans hI10).trans hI11)
  have hEE := (((he6.trans he9).trans he10).trans he11).mono ofD_J
  refine WL_nil ?_
  refine QA_seq ?_
  refine CW_seq ?_
  refine CW_region (l := [_, _, _, _, _, _, _, _]) ?_
  refine WL_val rfl (PE_move rfl) ?_
  refine WL_val rfl (PE_nilCheck rfl) ?_
  refine WL_val rfl (PE_fieldAddr fa_journal_Journal_2 rfl) ?_
  refine WL_val rfl (PE_load tc_uint64 rfl (.own b1 rfl)) ?_
  refine WL_val rfl (PE_add (r := ((s.turn + 1 : Nat) : Int)) rfl rfl (wu64e (by push_cast; rfl) (by omega) (by omega))) ?_
  refine WL_val rfl (PE_nilCheck rfl) ?_
  refine WL_val rfl (PE_fieldAddr fa_journal_Journal_2 rfl) ?_
  refine WL_op rfl (OE_store tc_uint64 rfl rfl rfl b1 (by simp)) ?_
  rintro _ I12_7 ah12_7 ⟨rfl, rfl, rfl⟩
  refine WL_nil ?_
  refine QA_seq ?_
  refine CW_seq ?_
  refine CW_region (l := [_, _, _, _, _, _, _, _]) ?_
  refine WL_val rfl (PE_move rfl) ?_
  refine WL_val rfl (PE_move rfl) ?_
  refine WL_val rfl (PE_nilCheck rfl) ?_
  refine WL_val rfl (PE_fieldAddr fa_journal_Journal_3 rfl) ?_
  refine WL_op rfl (OE_store tc_int rfl rfl rfl (AH.set_same _ _ _) (by simp)) ?_
  rintro _ I13_4 ah13_4 ⟨rfl, rfl, rfl⟩
  refine WL_val rfl (PE_nilCheck rfl) ?_
  refine WL_val rfl (PE_fieldAddr fa_journal_Journal_4 rfl) ?_
  refine WL_op rfl (OE_store tc_bool rfl rfl rfl (AH.set_same _ _ _) (by simp)) ?_
  rintro _ I13_7 ah13_7 ⟨rfl, rfl, rfl⟩
  refine WL_nil ?_
  refine QA_seq ?_
  refine CW_seq ?_
  refine CW_region (l := [_, _, _, _, _, _, _, _, _, _]) ?_
  refine WL_val rfl (PE_move rfl) ?_
  refine WL_val rfl (PE_move rfl) ?_
  refine WL_val rfl (PE_move rfl) ?_
  refine WL_op rfl (OE_call (l := [_]) E_bytes_Clone rfl rfl (bclone_spec _ _ _ _ bs (hv.mono hII) (by omega))) ?_
  rintro _ I14_3 ah14_3 ⟨v14, rfl, hI14, ho14, _⟩
  refine WL_forget (Own.base ho14) ?_
  have hs14 := ho14.sl
  clear ho14
  obtain ⟨xa, xc, rfl, _⟩ := SlI.form hs14
  refine WL_val rfl (PE_nilCheck rfl) ?_
  refine WL_val rfl (PE_fieldAddr fa_journal_Journal_5 rfl) ?_
  refine WL_op rfl (OE_store tc_sl_uint8 rfl rfl rfl (AH.set_same _ _ _) (by simp)) ?_
  rintro _ I14_6 ah14_6 ⟨rfl, rfl, rfl⟩
  refine WL_val rfl (PE_nilCheck rfl) ?_
  refine WL_val rfl (PE_fieldAddr fa_journal_Journal_6 rfl) ?_
  refine WL_op rfl (OE_store tc_sl_sl_uint8 rfl rfl rfl (AH.set_same _ _ _) (by simp)) ?_
  rintro _ I14_9 ah14_9 ⟨rfl, rfl, rfl⟩
  refine WL_nil ?_
  refine QA_seq ?_
  refine CW_seq ?_
  refine CW_region (l := [_]) ?_
  refine WL_val rfl (PE_assign rfl) ?_
  refine WL_nil ?_
  refine QA_seq ?_
  refine CW_ret ?_
  refine QA_return (rs := [_]) rfl rfl (hII.trans hI14) (_) (fun _ _ h => h) ?_
  simp only [AH.set_set]
  have hE : Evo ofR ρB ah11_5 ρB (ah11_5.set j (.cells (jcells d (keptJ s bs) (.slice xa bs.length xc) (.slice none 0 0)))) := Evo.set _ (.inl b2)
  exact ⟨hII.trans hI14, rfl, ρB, hEE.trans (hE.mono ofR_J), JAt.put (s := keptJ s bs) (vs := []) b2 hs14 (Rgt.nil _ _ _ _) (Rows.nil _), (hd11.mono hI14).jrn hE⟩

end Go.Proofs.YthdpebagkfloaaaDoor

