/- journal: readPart. -/
import Derived.Test.YthdpebagkfloaaaDoorPS
namespace Go.Proofs.YthdpebagkfloaaaDoor
open Go Go.RowKit SL
set_option linter.unusedVariables false
set_option linter.unusedSimpArgs false
set_option maxRecDepth 100000
def parseB : Nat → List UInt8 → List (List UInt8) × Bool
  | 0, _ => ([], true)
  | n + 1, b => if b = [] then ([], true) else match nextP b with
    | none => ([], false)
    | some (x, r) => (x :: (parseB n r).1, (parseB n r).2)
theorem parseB_more : ∀ (n m : Nat) (b : List UInt8), b.length ≤ n → b.length ≤ m → parseB n b = parseB m b
  | 0, m, b, hn, _ => by
    obtain rfl : b = [] := List.length_eq_zero_iff.1 (by omega)
    cases m <;> simp [parseB]
  | n + 1, 0, b, _, hm => by
    obtain rfl : b = [] := List.length_eq_zero_iff.1 (by omega)
    simp [parseB]
  | n + 1, m + 1, b, hn, hm => by
    unfold parseB
    by_cases hb : b = []
    · rw [if_pos hb, if_pos hb]
    · rw [if_neg hb, if_neg hb]
      cases hx : nextP b with
      | none => rfl
      | some p =>
        obtain ⟨x, r⟩ := p
        have := nextP_len hx
        dsimp only
        rw [parseB_more n m r (by omega) (by omega)]
def parse (b : List UInt8) : List (List UInt8) × Bool := parseB b.length b
theorem parse_nil : parse [] = ([], true) := rfl
theorem parse_none {b : List UInt8} (hb : b ≠ []) (h : nextP b = none) : parse b = ([], false) := by
  unfold parse
  cases hl : b.length with
  | zero => exact absurd (List.length_eq_zero_iff.1 hl) hb
  | succ n => unfold parseB; rw [if_neg hb, h]
theorem parse_some {b x r : List UInt8} (h : nextP b = some (x, r)) : parse b = (x :: (parse r).1, (parse r).2) := by
  have hlen := nextP_len h
  have hb : b ≠ [] := by rintro rfl; simp at hlen
  unfold parse
  cases hl : b.length with
  | zero => exact absurd (List.length_eq_zero_iff.1 hl) hb
  | succ n =>
    conv => lhs; unfold parseB
    rw [if_neg hb, h]
    dsimp only
    rw [parseB_more n r.length r (by omega) (Nat.le_refl _)]
def readJ (s : JS) (part : Nat) (b : List UInt8) : JS := { s with part := if (parse b).2 = true then part else part + 1, wr := (parse b).2, recs := s.recs ++ (parse b).1 }

theorem readPart0_spec (w0 : World) (I : IM) (ah : AH) (ρ : Roles) (j d room lives : Nat) (c : Cont) (sz : Nat) (s : JS) (hj : JAt ρ I ah j d s) (hd : Dk ρ I ah d room true lives c sz) (part : Nat) (ht : s.turn < 36 ^ 12) (hp : part < 36 ^ 12) (hg : good (pname s.turn part) = true) (hc : c (pname s.turn part) = none) :
    SC P w0 n_journal_Journal_readPart [.pointer (some ⟨j, 0, none⟩), .int .i64 (part : Nat)] I ah (fun v I' ah' => IM.le I I' ∧ ah = ah' ∧ v = .bool false) := by
  obtain ⟨bsv, rv, vs, h1, h2, h3, h4, h5⟩ := hj
  refine SC_enter fn_journal_Journal_readPart rfl rfl (Nat.le_of_ble_eq_true rfl) ?_
  refine CW_seq ?_
  refine CW_region (l := [_]) ?_
  refine WL_val rfl (PE_assign rfl) ?_
  refine WL_nil ?_
  refine QA_seq ?_
  refine CW_seq ?_
  refine CW_drawS (l := [_, _, _, _, _, _, _, _, _, _, _, _, _, _, _, _]) 16 mixed ?_
  refine WA_take 0 rfl (by kernel_rfl) (by kernel_rfl) (by kernel_rfl) (by kernel_rfl) rfl (by kernel_rfl) rfl (IM.le.refl _) (fun _ _ h => h) (PE_move rfl) ?_
  refine WA_take 1 rfl (by kernel_rfl) (by kernel_rfl) (by kernel_rfl) (by kernel_rfl) rfl (by kernel_rfl) rfl (IM.le.refl _) (fun _ _ h => h) (PE_nilCheck rfl) ?_
  refine WA_take 2 rfl (by kernel_rfl) (by kernel_rfl) (by kernel_rfl) (by kernel_rfl) rfl (by kernel_rfl) rfl (IM.le.refl _) (fun _ _ h => h) (PE_fieldAddr fa_journal_Journal_0 rfl) ?_
  refine WA_take 3 rfl (by kernel_rfl) (by kernel_rfl) (by kernel_rfl) (by kernel_rfl) rfl (by kernel_rfl) rfl (IM.le.refl _) (fun _ _ h => h) (PE_load tc_p_disk_Disk rfl (.own h1 rfl)) ?_
  refine WA_take 4 rfl (by kernel_rfl) (by kernel_rfl) (by kernel_rfl) (by kernel_rfl) rfl (by kernel_rfl) rfl (IM.le.refl _) (fun _ _ h => h) (PE_move rfl) ?_
  refine WA_take 5 rfl (by kernel_rfl) (by kernel_rfl) (by kernel_rfl) (by kernel_rfl) rfl (by kernel_rfl) rfl (IM.le.refl _) (fun _ _ h => h) (PE_nilCheck rfl) ?_
  refine WA_take 6 rfl (by kernel_rfl) (by kernel_rfl) (by kernel_rfl) (by kernel_rfl) rfl (by kernel_rfl) rfl (IM.le.refl _) (fun _ _ h => h) (PE_fieldAddr fa_journal_Journal_2 rfl) ?_
  refine WA_take 7 rfl (by kernel_rfl) (by kernel_rfl) (by kernel_rfl) (by kernel_rfl) rfl (by kernel_rfl) rfl (IM.le.refl _) (fun _ _ h => h) (PE_load tc_uint64 rfl (.own h1 rfl)) ?_
  refine WA_take 8 rfl (by kernel_rfl) (by kernel_rfl) (by kernel_rfl) (by kernel_rfl) rfl (by kernel_rfl) rfl (IM.le.refl _) (fun _ _ h => h) (PE_move rfl) ?_
  refine WA_op 9 rfl rfl (by kernel_rfl) (OE_call (l := [_, _]) E_journal_name rfl rfl (name_spec _ _ _ s.turn part ht hp)) ?_ ?_
  · rintro _ I1_9 ah1_9 ⟨_, rfl, _, rfl, rfl, rfl⟩; exact ⟨IM.le.refl _, fun _ _ h => h⟩
  rintro _ I1_9 ah1_9 ⟨_, rfl, _, rfl, rfl, rfl⟩
  refine WA_op 10 rfl rfl (by kernel_rfl) (OE_call (l := [_, _]) E_disk_Disk_Read rfl rfl (kread hd (pname s.turn part) (pname_size _ _ ht hp) hg)) ?_ ?_
  · rintro _ I1_10 ah1_10 ⟨_, rfl, hI1, rfl, v10, rfl, hv10⟩; exact ⟨hI1, fun _ _ h => h⟩
  rintro _ I1_10 ah1_10 ⟨_, rfl, hI1, rfl, v10, rfl, hv10⟩
  rw [codeC_none hc]
  refine WA_take 11 rfl (by kernel_rfl) (by kernel_rfl) (by kernel_rfl) (by kernel_rfl) rfl (by kernel_rfl) rfl (hI1) (fun _ _ h => h) (PE_move rfl) ?_
  refine WA_take 12 rfl (by kernel_rfl) (by kernel_rfl) (by kernel_rfl) (by kernel_rfl) rfl (by kernel_rfl) rfl (hI1) (fun _ _ h => h) (PE_extract rfl rfl) ?_
  refine WA_take 13 rfl (by kernel_rfl) (by kernel_rfl) (by kernel_rfl) (by kernel_rfl) rfl (by kernel_rfl) rfl (hI1) (fun _ _ h => h) (PE_extract rfl rfl) ?_
  refine WA_take 14 rfl (by kernel_rfl) (by kernel_rfl) (by kernel_rfl) (by kernel_rfl) rfl (by kernel_rfl) rfl (hI1) (fun _ _ h => h) (PE_assign rfl) ?_
  refine WA_take 15 rfl (by kernel_rfl) (by kernel_rfl) (by kernel_rfl) (by kernel_rfl) rfl (by kernel_rfl) rfl (hI1) (fun _ _ h => h) (PE_assign rfl) ?_
  refine WA_done (by kernel_rfl) ?_
  refine QA_seq ?_
  refine CW_seq ?_
  refine CW_seq ?_
  refine CW_region (l := [_, _]) ?_
  refine WL_val rfl (PE_move rfl) ?_
  refine WL_val rfl (PE_nei rfl rfl rfl) ?_
  refine WL_nil ?_
  refine QA_seq ?_
  refine CW_true rfl ?_
  refine CW_seq ?_
  refine CW_region (l := [_]) ?_
  refine WL_val rfl (PE_assign rfl) ?_
  refine WL_nil ?_
  refine QA_seq ?_
  refine CW_ret ?_
  refine QA_then_ret ?_
  refine QA_return (rs := [_]) rfl rfl (hI1) (_) (fun _ _ h => h) ?_
  exact ⟨hI1, rfl, rfl⟩

theorem readPart1_spec (w0 : World) (I : IM) (ah : AH) (ρ : Roles) (j d room lives : Nat) (c : Cont) (sz : Nat) (s : JS) (hj : JAt ρ I ah j d s) (hd : Dk ρ I ah d room true lives c sz) (part : Nat) (ht : s.turn < 36 ^ 12) (hp : part < 36 ^ 12) (hg : good (pname s.turn part) = true) (u : List UInt8 × List (List UInt8)) (hc : c (pname s.turn part) = some u) (hrl : s.recs.length ≤ 1048576) :
    SC P w0 n_journal_Journal_readPart [.pointer (some ⟨j, 0, none⟩), .int .i64 (part : Nat)] I ah (fun v I' ah' => IM.le I I' ∧ v = .bool true ∧ ∃ ρ', Evo ofJ ρ ah ρ' ah' ∧ JAt ρ' I' ah' j d (readJ s part (bytesC c (pname s.turn part))) ∧ Dk ρ' I' ah' d room true lives (syncC c (pname s.turn part)) sz) := by
  have hj0 := hj
  obtain ⟨bsv, rv, vs, h1, h2, h3, h4, h5⟩ := hj
  have hfile := hd.file (pname s.turn part)
  refine SC_enter fn_journal_Journal_readPart rfl rfl (Nat.le_of_ble_eq_true rfl) ?_
  refine CW_seq ?_
  refine CW_region (l := [_]) ?_
  refine WL_val rfl (PE_assign rfl) ?_
  refine WL_nil ?_
  refine QA_seq ?_
  refine CW_seq ?_
  refine CW_drawS (l := [_, _, _, _, _, _, _, _, _, _, _, _, _, _, _, _]) 16 mixed ?_
  refine WA_take 0 rfl (by kernel_rfl) (by kernel_rfl) (by kernel_rfl) (by kernel_rfl) rfl (by kernel_rfl) rfl (IM.le.refl _) (fun _ _ h => h) (PE_move rfl) ?_
  refine WA_take 1 rfl (by kernel_rfl) (by kernel_rfl) (by kernel_rfl) (by kernel_rfl) rfl (by kernel_rfl) rfl (IM.le.refl _) (fun _ _ h => h) (PE_nilCheck rfl) ?_
  refine WA_take 2 rfl (by kernel_rfl) (by kernel_rfl) (by kernel_rfl) (by kernel_rfl) rfl (by kernel_rfl) rfl (IM.le.refl _) (fun _ _ h => h) (PE_fieldAddr fa_journal_Journal_0 rfl) ?_
  refine WA_take 3 rfl (by kernel_rfl) (by kernel_rfl) (by kernel_rfl) (by kernel_rfl) rfl (by kernel_rfl) rfl (IM.le.refl _) (fun _ _ h => h) (PE_load tc_p_disk_Disk rfl (.own h1 rfl)) ?_
  refine WA_take 4 rfl (by kernel_rfl) (by kernel_rfl) (by kernel_rfl) (by kernel_rfl) rfl (by kernel_rfl) rfl (IM.le.refl _) (fun _ _ h => h) (PE_move rfl) ?_
  refine WA_take 5 rfl (by kernel_rfl) (by kernel_rfl) (by kernel_rfl) (by kernel_rfl) rfl (by kernel_rfl) rfl (IM.le.refl _) (fun _ _ h => h) (PE_nilCheck rfl) ?_
  refine WA_take 6 rfl (by kernel_rfl) (by kernel_rfl) (by kernel_rfl) (by kernel_rfl) rfl (by kernel_rfl) rfl (IM.le.refl _) (fun _ _ h => h) (PE_fieldAddr fa_journal_Journal_2 rfl) ?_
  refine WA_take 7 rfl (by kernel_rfl) (by kernel_rfl) (by kernel_rfl) (by kernel_rfl) rfl (by kernel_rfl) rfl (IM.le.refl _) (fun _ _ h => h) (PE_load tc_uint64 rfl (.own h1 rfl)) ?_
  refine WA_take 8 rfl (by kernel_rfl) (by kernel_rfl) (by kernel_rfl) (by kernel_rfl) rfl (by kernel_rfl) rfl (IM.le.refl _) (fun _ _ h => h) (PE_move rfl) ?_
  refine WA_op 9 rfl rfl (by kernel_rfl) (OE_call (l := [_, _]) E_journal_name rfl rfl (name_spec _ _ _ s.turn part ht hp)) ?_ ?_
  · rintro _ I1_9 ah1_9 ⟨_, rfl, _, rfl, rfl, rfl⟩; exact ⟨IM.le.refl _, fun _ _ h => h⟩
  rintro _ I1_9 ah1_9 ⟨_, rfl, _, rfl, rfl, rfl⟩
  refine WA_op 10 rfl rfl (by kernel_rfl) (OE_call (l := [_, _]) E_disk_Disk_Read rfl rfl (kread hd (pname s.turn part) (pname_size _ _ ht hp) hg)) ?_ ?_
  · rintro _ I1_10 ah1_10 ⟨_, rfl, hI1, rfl, v10, rfl, hv10⟩; exact ⟨hI1, fun _ _ h => h⟩
  rintro _ I1_10 ah1_10 ⟨_, rfl, hI1, rfl, v10, rfl, hv10⟩
  rw [codeC_some hc]
  refine WA_take 11 rfl (by kernel_rfl) (by kernel_rfl) (by kernel_rfl) (by kernel_rfl) rfl (by kernel_rfl) rfl (hI1) (fun _ _ h => h) (PE_move rfl) ?_
  refine WA_take 12 rfl (by kernel_rfl) (by kernel_rfl) (by kernel_rfl) (by kernel_rfl) rfl (by kernel_rfl) rfl (hI1) (fun _ _ h => h) (PE_extract rfl rfl) ?_
  refine WA_take 13 rfl (by kernel_rfl) (by kernel_rfl) (by kernel_rfl) (by kernel_rfl) rfl (by kernel_rfl) rfl (hI1) (fun _ _ h => h) (PE_extract rfl rfl) ?_
  refine WA_take 14 rfl (by kernel_rfl) (by kernel_rfl) (by kernel_rfl) (by kernel_rfl) rfl (by kernel_rfl) rfl (hI1) (fun _ _ h => h) (PE_assign rfl) ?_
  refine WA_take 15 rfl (by kernel_rfl) (by kernel_rfl) (by kernel_rfl) (by kernel_rfl) rfl (by kernel_rfl) rfl (hI1) (fun _ _ h => h) (PE_assign rfl) ?_
  refine WA_done (by kernel_rfl) ?_
  refine QA_seq ?_
  refine CW_seq ?_
  refine CW_seq ?_
  refine CW_region (l := [_, _]) ?_
  refine WL_val rfl (PE_move rfl) ?_
  refine WL_val rfl (PE_nei rfl rfl rfl) ?_
  refine WL_nil ?_
  refine QA_seq ?_
  refine CW_false rfl ?_
  refine CW_skip ?_
  refine QA_seq ?_
  refine CW_seq ?_
  refine CW_drawS (l := [_, _, _, _, _, _, _, _, _, _, _]) 10 mixed ?_
  refine WA_take 0 rfl (by kernel_rfl) (by kernel_rfl) (by kernel_rfl) (by kernel_rfl) rfl (by kernel_rfl) rfl (IM.le.refl _) (fun _ _ h => h) (PE_move rfl) ?_
  refine WA_take 1 rfl (by kernel_rfl) (by kernel_rfl) (by kernel_rfl) (by kernel_rfl) rfl (by kernel_rfl) rfl (IM.le.refl _) (fun _ _ h => h) (PE_nilCheck rfl) ?_
  refine WA_take 2 rfl (by kernel_rfl) (by kernel_rfl) (by kernel_rfl) (by kernel_rfl) rfl (by kernel_rfl) rfl (IM.le.refl _) (fun _ _ h => h) (PE_fieldAddr fa_journal_Journal_0 rfl) ?_
  refine WA_take 3 rfl (by kernel_rfl) (by kernel_rfl) (by kernel_rfl) (by kernel_rfl) rfl (by kernel_rfl) rfl (IM.le.refl _) (fun _ _ h => h) (PE_load tc_p_disk_Disk rfl (.own h1 rfl)) ?_
  refine WA_take 4 rfl (by kernel_rfl) (by kernel_rfl) (by kernel_rfl) (by kernel_rfl) rfl (by kernel_rfl) rfl (IM.le.refl _) (fun _ _ h => h) (PE_move rfl) ?_
  refine WA_take 5 rfl (by kernel_rfl) (by kernel_rfl) (by kernel_rfl) (by kernel_rfl) rfl (by kernel_rfl) rfl (IM.le.refl _) (fun _ _ h => h) (PE_nilCheck rfl) ?_
  refine WA_take 6 rfl (by kernel_rfl) (by kernel_rfl) (by kernel_rfl) (by kernel_rfl) rfl (by kernel_rfl) rfl (IM.le.refl _) (fun _ _ h => h) (PE_fieldAddr fa_journal_Journal_2 rfl) ?_
  refine WA_take 7 rfl (by kernel_rfl) (by kernel_rfl) (by kernel_rfl) (by kernel_rfl) rfl (by kernel_rfl) rfl (IM.le.refl _) (fun _ _ h => h) (PE_load tc_uint64 rfl (.own h1 rfl)) ?_
  refine WA_take 8 rfl (by kernel_rfl) (by kernel_rfl) (by kernel_rfl) (by kernel_rfl) rfl (by kernel_rfl) rfl (IM.le.refl _) (fun _ _ h => h) (PE_move rfl) ?_
  refine WA_op 9 rfl rfl (by kernel_rfl) (OE_call (l := [_, _]) E_journal_name rfl rfl (name_spec _ _ _ s.turn part ht hp)) ?_ ?_
  · rintro _ I4_9 ah4_9 ⟨_, rfl, _, rfl, rfl, rfl⟩; exact ⟨IM.le.refl _, fun _ _ h => h⟩
  rintro _ I4_9 ah4_9 ⟨_, rfl, _, rfl, rfl, rfl⟩
  refine WA_last 10 rfl rfl (by kernel_rfl) (by kernel_rfl) (OE_call (l := [_, _]) E_disk_Disk_Sync rfl rfl (ksync (hd.mono hI1) (pname s.turn part) (pname_size _ _ ht hp) hg)) ?_
  rintro _ I4_10 ah4_10 ⟨_, rfl, hI4, _, rfl, ρ4, he4, hd4⟩
  have hj4 := (hj0.mono (hI1.trans hI4)).dsk he4
  refine WA_done (by kernel_rfl) ?_
  obtain ⟨bsv', rv', vs', k1, k2, k3, k4, k5⟩ := hj4
  have hd4' := hd4
  refine QA_seq ?_
  refine CW_seq ?_
  refine CW_region (l := [_, _, _, _, _, _, _, _, _]) ?_
  refine WL_val rfl (PE_move rfl) ?_
  refine WL_val rfl (PE_move rfl) ?_
  refine WL_val rfl (PE_move rfl) ?_
  refine WL_val rfl (PE_nilCheck rfl) ?_
  refine WL_val rfl (PE_fieldAddr fa_journal_Journal_3 rfl) ?_
  refine WL_op rfl (OE_store tc_int rfl rfl rfl k1 (by simp)) ?_
  rintro _ I5_5 ah5_5 ⟨rfl, rfl, rfl⟩
  refine WL_val rfl (PE_nilCheck rfl) ?_
  refine WL_val rfl (PE_fieldAddr fa_journal_Journal_4 rfl) ?_
  refine WL_op rfl (OE_store tc_bool rfl rfl rfl (AH.set_same _ _ _) (by simp)) ?_
  rintro _ I5_8 ah5_8 ⟨rfl, rfl, rfl⟩
  refine WL_nil ?_
  refine QA_seq ?_
  refine CW_seq ?_
  rw [AH.set_set]
  have hj5 : JAt ρ4 I4_10 (ah4_10.set j (.cells (jcells d { s with part := part, wr := true } bsv' rv'))) j d { s with part := part, wr := true } := JAt.put k2 k3 k4 k5
  have he5 : Evo ofR ρ4 ah4_10 ρ4 (ah4_10.set j (.cells (jcells d { s with part := part, wr := true } bsv' rv'))) := Evo.set _ (.inl k2)
  have hd5 := hd4'.jrn he5
  have hE5 := (he4.mono ofD_J).trans (he5.mono ofR_J)
  change CW _ _ _ _ (ah4_10.set j (.cells (jcells d { s with part := part, wr := true } bsv' rv'))) _
  generalize ah4_10.set j (.cells (jcells d { s with part := part, wr := true } bsv' rv')) = ah5 at hj5 he5 hd5 hE5 ⊢
  refine CW_block ?_
  refine CW_loop (fun k e I' A' => ∃ ρ' v b rs, e = [(0, .pointer (some ⟨j, 0, none⟩)), (1, .int .i64 (part : Nat)), (5, v)] ∧ IM.le I I' ∧ k = b.length ∧ BySl I' v b ∧ b.length ≤ 1048576 ∧ Evo ofJ ρ ah ρ' A' ∧ JAt ρ' I' A' j d { s with part := part, wr := true, recs := rs } ∧ Dk ρ' I' A' d room true lives (syncC c (pname s.turn part)) sz ∧ rs ++ (parse b).1 = s.recs ++ (parse (bytesC c (pname s.turn part))).1 ∧ (parse b).2 = (parse (bytesC c (pname s.turn part))).2 ∧ rs.length + b.length ≤ 2097152) ((bytesC c (pname s.turn part)).length) (e0 := [(0, .pointer (some ⟨j, 0, none⟩)), (1, .int .i64 (part : Nat)), (5, v10)]) (⟨ρ4, v10, _, s.recs, rfl, hI1.trans hI4, rfl, hv10.mono hI4, hfile, hE5, hj5, hd5, rfl, rfl, by omega⟩) (by repeat (first | exact .nil | refine .cons rfl ?_)) ?_
  rintro k e I2 A2 ⟨ρ2, v, b, rs, rfl, hI2, rfl, hv, hbl, hev, hj2, hd2, hrs, hcl, hsum⟩
  obtain ⟨ba, bc, rfl, _⟩ := hv.form
  refine CW_seq ?_
  refine CW_seq ?_
  refine CW_region (l := [_, _, _]) ?_
  refine WL_val rfl (PE_move rfl) ?_
  refine WL_val rfl (PE_len und_sl_uint8 rfl) ?_
  refine WL_val rfl (PE_gtr rfl rfl rfl) ?_
  refine WL_nil ?_
  refine QA_seq ?_
  refine CW_cond rfl (fun c2 => ?_) (fun c2 => ?_)
  · have hb0 : b ≠ [] := by rintro rfl; cases c2
    refine CW_skip ?_
    refine QA_seq ?_
    refine CW_block ?_
    refine CW_seq ?_
    refine CW_region (l := [_, _, _, _, _, _, _, _, _]) ?_
    refine WL_val rfl (PE_move rfl) ?_
    refine WL_op rfl (OE_call (l := [_]) E_journal_next rfl rfl (next_spec _ _ _ _ b hv hbl)) ?_
    rintro _ I7_1 ah7_1 ⟨_, rfl, hI7, rfl, xv, rv7, rfl, hxr⟩
    have hj2' := hj2.mono hI7
    obtain ⟨bsv2, rv2, vs2, j1, j2, j3, j4, j5⟩ := hj2'
    obtain ⟨ra, rc, rfl, _⟩ := SlI.form j4.1
    refine WL_val rfl (PE_move rfl) ?_
    refine WL_val rfl (PE_extract rfl rfl) ?_
    refine WL_val rfl (PE_extract rfl rfl) ?_
    refine WL_val rfl (PE_extract rfl rfl) ?_
    refine WL_val rfl (PE_assign rfl) ?_
    refine WL_val rfl (PE_assign rfl) ?_
    refine WL_val rfl (PE_assign rfl) ?_
    refine WL_nil ?_
    refine QA_seq ?_
    refine CW_seq ?_
    refine CW_seq ?_
    refine CW_region (l := [_, _]) ?_
    refine WL_val rfl (PE_move rfl) ?_
    refine WL_val rfl (PE_un rfl (rfl)) ?_
    refine WL_nil ?_
    refine QA_seq ?_
    refine CW_cond rfl (fun c3 => ?_) (fun c3 => ?_)
    · have hP : nextP b = none := by cases hn : nextP b with
        | none => rfl
        | some p => rw [hn] at c3; cases c3
      refine CW_seq ?_
      refine CW_region (l := [_, _, _, _, _, _, _, _, _, _]) ?_
      refine WL_val rfl (PE_move rfl) ?_
      refine WL_val rfl (PE_move rfl) ?_
      refine WL_val rfl (PE_move rfl) ?_
      refine WL_val rfl (PE_add (r := ((part + 1 : Nat) : Int)) rfl rfl (w64e (by push_cast; rfl) (by omega) (by omega))) ?_
      refine WL_val rfl (PE_nilCheck rfl) ?_
      refine WL_val rfl (PE_fieldAddr fa_journal_Journal_3 rfl) ?_
      refine WL_op rfl (OE_store tc_int rfl rfl rfl j1 (by simp)) ?_
      rintro _ I9_6 ah9_6 ⟨rfl, rfl, rfl⟩
      refine WL_val rfl (PE_nilCheck rfl) ?_
      refine WL_val rfl (PE_fieldAddr fa_journal_Journal_4 rfl) ?_
      refine WL_op rfl (OE_store tc_bool rfl rfl rfl (AH.set_same _ _ _) (by simp)) ?_
      rintro _ I9_9 ah9_9 ⟨rfl, rfl, rfl⟩
      refine WL_nil ?_
      refine QA_seq ?_
      refine CW_seq ?_
      refine CW_region (l := [_]) ?_
      refine WL_val rfl (PE_assign rfl) ?_
      refine WL_nil ?_
      refine QA_seq ?_
      refine CW_ret ?_
      refine QA_then_ret ?_
      refine QA_block_ret ?_
      refine QA_then_ret ?_
      refine QA_block_ret ?_
      refine QA_then_ret ?_
      refine QA_return (rs := [_]) rfl rfl (hI2.trans hI7) (_) (fun _ _ h => h) ?_
      rw [AH.set_set]
      have hpn := parse_none hb0 hP
      have hE9 : Evo ofR ρ2 A2 ρ2 (A2.set j (.cells (jcells d (readJ s part (bytesC c (pname s.turn part))) bsv2 (.slice ra rs.length rc)))) := Evo.set _ (.inl j2)
      have hrs' : rs = s.recs ++ (parse (bytesC c (pname s.turn part))).1 := by rw [← hrs, hpn]; simp
      have hcl' : (parse (bytesC c (pname s.turn part))).2 = false := by rw [← hcl, hpn]
      have hJ := JAt.put (d := d) (s := readJ s part (bytesC c (pname s.turn part))) (rv := .slice ra rs.length rc) j2 j3 (by show Rgt _ _ _ _ _ (s.recs ++ (parse (bytesC c (pname s.turn part))).1).length _; rw [← hrs']; exact j4) (by show Rows _ _ (s.recs ++ (parse (bytesC c (pname s.turn part))).1); rw [← hrs']; exact j5)
      have hce : jcells d (readJ s part (bytesC c (pname s.turn part))) bsv2 (.slice ra rs.length rc) = [.pointer (some ⟨d, 0, none⟩), .int .i64 (s.lives : Int), .int .u64 (s.turn : Int), .int .i64 ((part + 1 : Nat) : Int), .bool false, bsv2, .slice ra rs.length rc, .bool s.full] := by simp [jcells, readJ, hcl']
      rw [hce] at hE9 hJ
      exact ⟨hI2.trans hI7, rfl, ρ2, hev.trans (hE9.mono ofR_J), hJ, (hd2.mono hI7).jrn hE9⟩
    · obtain ⟨⟨x, r⟩, hP⟩ : ∃ p, nextP b = some p := by cases hn : nextP b with
        | none => rw [hn] at c3; cases c3
        | some p => exact ⟨p, rfl⟩
      obtain ⟨hx7, hr7⟩ := hxr x r hP
      have hlen7 := nextP_len hP
      have hpx := parse_some hP
      obtain ⟨xa, xc, rfl, _⟩ := hx7.form
      refine CW_skip ?_
      refine QA_seq ?_
      refine CW_seq ?_
      obtain ⟨ah0, go, gk, gn⟩ := j4.own
      have j1' := gk j _ j1 (by rw [j2]; simp)
      refine CW_draw (l := [_, _, _, _, _, _, _, _, _, _, _, _]) 11 (ah0) mixed ?_
      refine WA_take 0 rfl (by kernel_rfl) (by kernel_rfl) (by kernel_rfl) (by kernel_rfl) rfl (by kernel_rfl) rfl (IM.le.refl _) (Own.base go) (PE_move rfl) ?_
      refine WA_take 1 rfl (by kernel_rfl) (by kernel_rfl) (by kernel_rfl) (by kernel_rfl) rfl (by kernel_rfl) rfl (IM.le.refl _) (Own.base go) (PE_move rfl) ?_
      refine WA_take 2 rfl (by kernel_rfl) (by kernel_rfl) (by kernel_rfl) (by kernel_rfl) rfl (by kernel_rfl) rfl (IM.le.refl _) (Own.base go) (PE_nilCheck rfl) ?_
      refine WA_take 3 rfl (by kernel_rfl) (by kernel_rfl) (by kernel_rfl) (by kernel_rfl) rfl (by kernel_rfl) rfl (IM.le.refl _) (Own.base go) (PE_fieldAddr fa_journal_Journal_6 rfl) ?_
      refine WA_take 4 rfl (by kernel_rfl) (by kernel_rfl) (by kernel_rfl) (by kernel_rfl) rfl (by kernel_rfl) rfl (IM.le.refl _) (Own.base go) (PE_load tc_sl_sl_uint8 rfl (.own j1' rfl)) ?_
      refine WA_take 5 rfl (by kernel_rfl) (by kernel_rfl) (by kernel_rfl) (by kernel_rfl) rfl (by kernel_rfl) rfl (IM.le.refl _) (Own.base go) (PE_move rfl) ?_
      refine WA_op 6 rfl rfl (by kernel_rfl) (OE_call (l := [_]) E_bytes_Clone rfl rfl (bclone_spec _ _ _ _ x hx7 (by omega))) ?_ ?_
      · rintro _ I11_6 ah11_6 ⟨v11, rfl, hI11, ho11, _⟩; exact ⟨hI11, fun b x e => Own.base ho11 b x (Own.base go b x e)⟩
      rintro _ I11_6 ah11_6 ⟨v11, rfl, hI11, ho11, _⟩
      refine WA_forget (Own.base ho11) ?_
      have hs11 := ho11.sl
      clear ho11
      obtain ⟨va, vc, rfl, _⟩ := SlI.form hs11
      refine WA_op 7 rfl rfl (by kernel_rfl) (OE_litI (l := [_]) (vs := [_]) und_sl_sl_uint8 te_sl_uint8 rfl rfl rfl (by simp [Value.cells]) (by decide) rfl rfl) ?_ ?_
      · rintro _ I11_7 ah11_7 ⟨v11_7, rfl, hI11_7, rfl, hv11_7, hn11_7⟩; exact ⟨hI11.trans hI11_7, Own.base go⟩
      rintro _ I11_7 ah11_7 ⟨v11_7, rfl, hI11_7, rfl, hv11_7, hn11_7⟩
      refine WA_op 8 rfl rfl (by kernel_rfl) (OE_append (n := rs.length) (m := 1) (vs := vs2) (us := [.slice va x.length vc]) und_sl_sl_uint8 ⟨_, und_sl_sl_uint8⟩ te_sl_uint8 rfl rfl rfl (go.mono (hI11.trans hI11_7)) (hv11_7.src _) (by simp [Value.oneCell']) (by decide) (by omega) (by omega)) ?_ ?_
      · rintro _ I11_8 ah11_8 ⟨v11_8, rfl, hI11_8, hv11_8, hn11_8⟩; exact ⟨(hI11.trans hI11_7).trans hI11_8, Own.base hv11_8⟩
      rintro _ I11_8 ah11_8 ⟨v11_8, rfl, hI11_8, hv11_8, hn11_8⟩
      obtain ⟨na, nc, rfl, _⟩ := SlI.form hv11_8.sl
      obtain ⟨ρ3, hr3, he3, _⟩ := Rgt.of (ρ := ρ2) (S := fun r => r = .jrec) hv11_8 gk gn rfl
      have j1'' := Own.base hv11_8 _ _ j1'
      have j2'' := (he3 j _ j1 (by rw [j2]; simp)).2.trans j2
      refine WA_take 9 rfl (by kernel_rfl) (by kernel_rfl) (by kernel_rfl) (by kernel_rfl) rfl (by kernel_rfl) rfl ((hI11.trans hI11_7).trans hI11_8) (Own.base hv11_8) (PE_nilCheck rfl) ?_
      refine WA_take 10 rfl (by kernel_rfl) (by kernel_rfl) (by kernel_rfl) (by kernel_rfl) rfl (by kernel_rfl) rfl ((hI11.trans hI11_7).trans hI11_8) (Own.base hv11_8) (PE_fieldAddr fa_journal_Journal_6 rfl) ?_
      refine WA_last 11 rfl rfl (by kernel_rfl) (by kernel_rfl) (OE_store tc_sl_sl_uint8 rfl rfl rfl j1'' (by simp)) ?_
      rintro _ I11_11 ah11_11 ⟨rfl, rfl, rfl⟩
      have hIa := (hI11.trans hI11_7).trans hI11_8
      have hII := hI7.trans hIa
      have he4' : Evo (fun r => r = .jrn) ρ3 ah11_8 ρ3 (ah11_8.set j (.cells (jcells d { s with part := part, wr := true, recs := rs ++ [x] } bsv2 (.slice na (rs.length + 1) nc)))) := Evo.set _ j2''
      have hER : Evo ofR ρ2 A2 ρ3 (ah11_8.set j (.cells (jcells d { s with part := part, wr := true, recs := rs ++ [x] } bsv2 (.slice na (rs.length + 1) nc)))) := (he3.mono (by rintro r rfl; exact .inr rfl)).trans (he4'.mono (by rintro r rfl; exact .inl rfl))
      have hj3 : JAt ρ3 I11_8 (ah11_8.set j (.cells (jcells d { s with part := part, wr := true, recs := rs ++ [x] } bsv2 (.slice na (rs.length + 1) nc)))) j d { s with part := part, wr := true, recs := rs ++ [x] } := JAt.put (vs := vs2 ++ [.slice va x.length vc]) j2'' (j3.mono hIa) (by show Rgt _ _ _ _ _ (rs ++ [x]).length _; rw [List.length_append]; exact hr3) ((j5.mono hIa).snoc (hs11.mono (hI11_7.trans hI11_8)))
      have hd3 := (hd2.mono hII).jrn hER
      have hE3 := hER.mono ofR_J
      refine WA_done (by kernel_rfl) ?_
      refine QA_seq ?_
      refine CW_region (l := [_, _]) ?_
      refine WL_val rfl (PE_move rfl) ?_
      refine WL_val rfl (PE_assign rfl) ?_
      refine WL_nil ?_
      refine QA_block_normal ?_
      exact QA_round r.length _ (by omega) ⟨ρ3, _, r, rs ++ [x], rfl, hI2.trans hII, rfl, hr7.mono (hI11.trans (hI11_7.trans hI11_8)), by omega, hev.trans hE3, hj3, hd3, by rw [List.append_assoc, ← hrs, hpx]; rfl, by rw [← hcl, hpx], by simp; omega⟩ (by repeat (first | exact .nil | refine .cons rfl ?_))
  · have hb0 : b = [] := by
      cases b with
      | nil => rfl
      | cons x r => simp at c2
    subst hb0
    refine CW_exit ?_
    refine QA_then_exit ?_
    refine QA_then_exit ?_
    refine QA_block_here ?_
    refine QA_seq ?_
    refine CW_seq ?_
    refine CW_region (l := [_]) ?_
    refine WL_val rfl (PE_assign rfl) ?_
    refine WL_nil ?_
    refine QA_seq ?_
    refine CW_ret ?_
    refine QA_return (rs := [_]) rfl rfl (hI2) (_) (fun _ _ h => h) ?_
    refine ⟨hI2, rfl, ρ2, hev, ?_, hd2⟩
    have h1 : readJ s part (bytesC c (pname s.turn part)) = { s with part := part, wr := true, recs := rs } := by
      rw [readJ, ← hcl, ← hrs, parse_nil]; simp
    rw [h1]; exact hj2

end Go.Proofs.YthdpebagkfloaaaDoor

