/- journal: Add. -/
import Derived.Test.YthdpebagkfloaaaDoorPU
namespace Go.Proofs.YthdpebagkfloaaaDoor
open Go Go.RowKit SL
set_option linter.unusedVariables false
set_option linter.unusedSimpArgs false
set_option maxRecDepth 100000
theorem frameB_len (b : List UInt8) : (frameB b).length = b.length + 20 := by
  have := sha_size (bigB b.length 4 ++ b)
  simp [frameB, bigB_len, this]; omega
def addC (c : Cont) (k : ByteArray) : List (List UInt8) → Cont
  | [] => c
  | l :: r => addC (c.set k (grown (c k) (frameB l))) k r
theorem addC_snoc (k : ByteArray) (x : List UInt8) : ∀ (l : List (List UInt8)) (c : Cont), addC c k (l ++ [x]) = (addC c k l).set k (grown (addC c k l k) (frameB x))
  | [], c => rfl
  | y :: r, c => addC_snoc k x r _
def frSz : List (List UInt8) → Nat
  | [] => 0
  | l :: r => l.length + 20 + frSz r
theorem frSz_snoc (x : List UInt8) : ∀ (l : List (List UInt8)), frSz (l ++ [x]) = frSz l + (x.length + 20)
  | [] => by simp [frSz]
  | y :: r => by rw [List.cons_append, frSz, frSz, frSz_snoc x r]; omega
theorem frSz_take (ls : List (List UInt8)) (i : Nat) (hi : i < ls.length) : frSz (ls.take (i + 1)) = frSz (ls.take i) + (ls[i].length + 20) := by
  rw [List.take_succ_eq_append_getElem hi, frSz_snoc]
theorem frSz_le : ∀ (ls : List (List UInt8)) (i : Nat), frSz (ls.take i) ≤ frSz ls
  | [], i => by simp [frSz]
  | y :: r, 0 => by simp [frSz]
  | y :: r, i + 1 => by have := frSz_le r i; rw [List.take_succ_cons, frSz, frSz]; omega
def addJ (s : JS) (ls : List (List UInt8)) : JS := { s with wr := s.wr || decide (0 < ls.length), recs := s.recs ++ ls }
theorem done_not {s : JS} {lives : Nat} (hf : s.full = false) (hl : s.lives = lives) : (s.full || !true || decide (lives ≠ s.lives)) = false := by simp [hf, hl]

theorem addOff_spec (w0 : World) (I : IM) (ah : AH) (ρ : Roles) (j d room lives : Nat) (on : Bool) (c : Cont) (sz : Nat) (s : JS) (hj : JAt ρ I ah j d s) (hd : Dk ρ I ah d room on lives c sz) (v : Value) (hdn : (s.full || !on || decide (lives ≠ s.lives)) = true) :
    SC P w0 n_journal_Journal_Add [.pointer (some ⟨j, 0, none⟩), v] I ah (fun v I' ah' => I = I' ∧ ah = ah' ∧ v = .int .i64 7) := by
  refine SC_enter fn_journal_Journal_Add rfl rfl (Nat.le_of_ble_eq_true rfl) ?_
  refine CW_seq ?_
  refine CW_region (l := [_]) ?_
  refine WL_val rfl (PE_assign rfl) ?_
  refine WL_nil ?_
  refine QA_seq ?_
  refine CW_seq ?_
  refine CW_seq ?_
  refine CW_region (l := [_, _]) ?_
  refine WL_val rfl (PE_move rfl) ?_
  refine WL_op rfl (OE_call (l := [_]) E_journal_Journal_Done rfl rfl (done_spec _ _ _ ρ j d room lives on c sz s hj hd)) ?_
  rintro _ I1_1 ah1_1 ⟨_, rfl, _, rfl, rfl, rfl⟩
  rw [hdn]
  refine WL_nil ?_
  refine QA_seq ?_
  refine CW_true rfl ?_
  refine CW_seq ?_
  refine CW_region (l := [_]) ?_
  refine WL_val rfl (PE_assign rfl) ?_
  refine WL_nil ?_
  refine QA_seq ?_
  refine CW_ret ?_
  refine QA_then_ret ?_
  refine QA_return (rs := [_]) rfl rfl (IM.le.refl _) (_) (fun _ _ h => h) ?_
  exact ⟨rfl, rfl, rfl⟩

theorem addLimit_spec (w0 : World) (I : IM) (ah : AH) (ρ : Roles) (j d room lives : Nat) (on : Bool) (c : Cont) (sz : Nat) (s : JS) (hj : JAt ρ I ah j d s) (hd : Dk ρ I ah d room on lives c sz) (v : Value) (ls : List (List UInt8)) (hv : ByRows I v ls) (hdn : (s.full || !on || decide (lives ≠ s.lives)) = false) (hn : ls.length ≤ 1048576) (hbig : ∃ l ∈ ls, 16384 < l.length) :
    SC P w0 n_journal_Journal_Add [.pointer (some ⟨j, 0, none⟩), v] I ah (fun v I' ah' => I = I' ∧ ah = ah' ∧ v = .int .i64 2) := by
  obtain ⟨vs, hsl, hrw⟩ := hv
  obtain ⟨va, vc, hva, _⟩ := hsl.form
  refine SC_enter fn_journal_Journal_Add rfl rfl (Nat.le_of_ble_eq_true rfl) ?_
  refine CW_seq ?_
  refine CW_region (l := [_]) ?_
  refine WL_val rfl (PE_assign rfl) ?_
  refine WL_nil ?_
  refine QA_seq ?_
  refine CW_seq ?_
  refine CW_seq ?_
  refine CW_region (l := [_, _]) ?_
  refine WL_val rfl (PE_move rfl) ?_
  refine WL_op rfl (OE_call (l := [_]) E_journal_Journal_Done rfl rfl (done_spec _ _ _ ρ j d room lives on c sz s hj hd)) ?_
  rintro _ I1_1 ah1_1 ⟨_, rfl, _, rfl, rfl, rfl⟩
  rw [hdn]
  refine WL_nil ?_
  refine QA_seq ?_
  refine CW_false rfl ?_
  refine CW_skip ?_
  refine QA_seq ?_
  refine CW_seq ?_
  refine CW_seq ?_
  refine CW_region (l := [_, _, _]) ?_
  refine WL_val rfl (PE_move rfl) ?_
  refine WL_val rfl (PE_len und_sl_sl_uint8 (by rw [← hva]; rfl)) ?_
  refine WL_val rfl (PE_move rfl) ?_
  refine WL_nil ?_
  refine QA_seq ?_
  refine CW_for (ls.length) (by omega) (fun k e I' A' => e = [(0, .pointer (some ⟨j, 0, none⟩)), (1, v), (14, v)] ∧ I = I' ∧ ah = A' ∧ (∀ (i : Nat) l, i < k → ls[i]? = some l → l.length ≤ 16384)) ([(0, .pointer (some ⟨j, 0, none⟩)), (1, v), (14, v)]) (⟨rfl, rfl, rfl, fun i l h => by omega⟩) (by repeat (first | exact .nil | refine .cons rfl ?_)) (by rintro k e I ah ⟨rfl, _⟩; exact ⟨rfl, rfl, rfl, rfl⟩) rfl rfl rfl rfl ?_ ?_
  · rintro k e I A hk ⟨rfl, rfl, rfl, hall⟩
    obtain ⟨b, o, cc, hvb, _, hcv⟩ := SlI.at hsl hk
    obtain ⟨u, hu, hul⟩ := hrw k ls[k] (by simp)
    obtain ⟨ua, uc, rfl, _⟩ := hul.form
    refine CW_block ?_
    refine CW_seq ?_
    refine CW_region (l := [_, _, _]) ?_
    refine WL_val rfl (PE_index1 und_sl_sl_uint8 te_sl_uint8.size (by rw [← hvb]; rfl) rfl rfl hk) ?_
    refine WL_val rfl (PE_load tc_sl_uint8 rfl (.imm (hcv k _ hu))) ?_
    refine WL_val rfl (PE_assign rfl) ?_
    refine WL_nil ?_
    refine QA_seq ?_
    refine CW_seq ?_
    refine CW_region (l := [_, _, _]) ?_
    refine WL_val rfl (PE_move rfl) ?_
    refine WL_val rfl (PE_len und_sl_uint8 rfl) ?_
    refine WL_val rfl (PE_gtr rfl rfl rfl) ?_
    refine WL_nil ?_
    refine QA_seq ?_
    refine CW_cond rfl (fun c3 => ?_) (fun c3 => ?_)
    · skip
      refine CW_seq ?_
      refine CW_region (l := [_]) ?_
      refine WL_val rfl (PE_assign rfl) ?_
      refine WL_nil ?_
      refine QA_seq ?_
      refine CW_ret ?_
      refine QA_block_ret ?_
      refine QA_then_ret ?_
      refine QA_block_ret ?_
      refine QA_then_ret ?_
      refine QA_return (rs := [_]) rfl rfl (IM.le.refl _) (_) (fun _ _ h => h) ?_
      exact ⟨rfl, rfl, rfl⟩
    · skip
      refine CW_skip ?_
      refine QA_block_normal ?_
      exact QA_next _ ⟨rfl, rfl, rfl, fun i l hi e => by
        rcases Nat.lt_or_ge i k with h | h
        · exact hall i l h e
        · obtain rfl : i = k := by omega
          have h0 : ((ls[i].length : Nat) : Int) ≤ 16384 := (by simpa using c3)
          rw [List.getElem?_eq_getElem hk] at e; cases e; omega⟩ (by repeat (first | exact .nil | refine .cons rfl ?_))
  · rintro e I A ⟨rfl, rfl, rfl, hall⟩
    exfalso
    obtain ⟨l, hl, hlt⟩ := hbig
    obtain ⟨i, hi, e⟩ := List.mem_iff_getElem.1 hl
    have := hall i l hi (by rw [← e]; exact List.getElem?_eq_getElem hi)
    omega

theorem jadd_spec (w0 : World) (I : IM) (ah : AH) (ρ : Roles) (j d room lives : Nat) (c : Cont) (sz : Nat) (s : JS) (hj : JAt ρ I ah j d s) (hd : Dk ρ I ah d room true lives c sz) (v : Value) (ls : List (List UInt8)) (hv : ByRows I v ls) (hdf : s.full = false) (hdl : s.lives = lives) (hn : ls.length ≤ 1048576) (hsm : ∀ l ∈ ls, l.length ≤ 16384)
    (ht : s.turn < 36 ^ 12) (hp : s.part < 36 ^ 12) (hg : good (pname s.turn s.part) = true) (hroom : sz + frSz ls ≤ room) (hrl : s.recs.length ≤ 1048576) :
    SC P w0 n_journal_Journal_Add [.pointer (some ⟨j, 0, none⟩), v] I ah (fun v I' ah' => IM.le I I' ∧ v = .int .i64 0 ∧ ∃ ρ', Evo ofJ ρ ah ρ' ah' ∧ JAt ρ' I' ah' j d (addJ s ls) ∧ Dk ρ' I' ah' d room true lives (addC c (pname s.turn s.part) ls) (sz + frSz ls)) := by
  obtain ⟨vs, hsl, hrw⟩ := hv
  obtain ⟨va, vc, hva, _⟩ := hsl.form
  have hroom2 : room ≤ 1048576 := by obtain ⟨_, _, hF, _⟩ := hd; exact hF.2.1
  refine SC_enter fn_journal_Journal_Add rfl rfl (Nat.le_of_ble_eq_true rfl) ?_
  refine CW_seq ?_
  refine CW_region (l := [_]) ?_
  refine WL_val rfl (PE_assign rfl) ?_
  refine WL_nil ?_
  refine QA_seq ?_
  refine CW_seq ?_
  refine CW_seq ?_
  refine CW_region (l := [_, _]) ?_
  refine WL_val rfl (PE_move rfl) ?_
  refine WL_op rfl (OE_call (l := [_]) E_journal_Journal_Done rfl rfl (done_spec _ _ _ ρ j d room lives true c sz s hj hd)) ?_
  rintro _ I1_1 ah1_1 ⟨_, rfl, _, rfl, rfl, rfl⟩
  rw [done_not hdf hdl]
  refine WL_nil ?_
  refine QA_seq ?_
  refine CW_false rfl ?_
  refine CW_skip ?_
  refine QA_seq ?_
  refine CW_seq ?_
  refine CW_seq ?_
  refine CW_region (l := [_, _, _]) ?_
  refine WL_val rfl (PE_move rfl) ?_
  refine WL_val rfl (PE_len und_sl_sl_uint8 (by rw [← hva]; rfl)) ?_
  refine WL_val rfl (PE_move rfl) ?_
  refine WL_nil ?_
  refine QA_seq ?_
  refine CW_for (ls.length) (by omega) (fun k e I' A' => e = [(0, .pointer (some ⟨j, 0, none⟩)), (1, v), (14, v)] ∧ I = I' ∧ ah = A' ∧ (∀ (i : Nat) l, i < k → ls[i]? = some l → l.length ≤ 16384)) ([(0, .pointer (some ⟨j, 0, none⟩)), (1, v), (14, v)]) (⟨rfl, rfl, rfl, fun i l h => by omega⟩) (by repeat (first | exact .nil | refine .cons rfl ?_)) (by rintro k e I ah ⟨rfl, _⟩; exact ⟨rfl, rfl, rfl, rfl⟩) rfl rfl rfl rfl ?_ ?_
  · rintro k e I A hk ⟨rfl, rfl, rfl, hall⟩
    obtain ⟨b, o, cc, hvb, _, hcv⟩ := SlI.at hsl hk
    obtain ⟨u, hu, hul⟩ := hrw k ls[k] (by simp)
    obtain ⟨ua, uc, rfl, _⟩ := hul.form
    refine CW_block ?_
    refine CW_seq ?_
    refine CW_region (l := [_, _, _]) ?_
    refine WL_val rfl (PE_index1 und_sl_sl_uint8 te_sl_uint8.size (by rw [← hvb]; rfl) rfl rfl hk) ?_
    refine WL_val rfl (PE_load tc_sl_uint8 rfl (.imm (hcv k _ hu))) ?_
    refine WL_val rfl (PE_assign rfl) ?_
    refine WL_nil ?_
    refine QA_seq ?_
    refine CW_seq ?_
    refine CW_region (l := [_, _, _]) ?_
    refine WL_val rfl (PE_move rfl) ?_
    refine WL_val rfl (PE_len und_sl_uint8 rfl) ?_
    refine WL_val rfl (PE_gtr (b := false) rfl rfl (by have := hsm _ (List.getElem_mem hk); simp; omega)) ?_
    refine WL_nil ?_
    refine QA_seq ?_
    refine CW_false rfl ?_
    refine CW_skip ?_
    refine QA_block_normal ?_
    exact QA_next _ ⟨rfl, rfl, rfl, fun i l hi e => by
      rcases Nat.lt_or_ge i k with h | h
      · exact hall i l h e
      · obtain rfl : i = k := by omega
        rw [List.getElem?_eq_getElem hk] at e; cases e; exact hsm _ (List.getElem_mem hk)⟩ (by repeat (first | exact .nil | refine .cons rfl ?_))
  · rintro e I A ⟨rfl, rfl, rfl, _⟩
    refine QA_seq ?_
    refine CW_seq ?_
    refine CW_seq ?_
    refine CW_region (l := [_, _, _]) ?_
    refine WL_val rfl (PE_move rfl) ?_
    refine WL_val rfl (PE_len und_sl_sl_uint8 (by rw [← hva]; rfl)) ?_
    refine WL_val rfl (PE_move rfl) ?_
    refine WL_nil ?_
    refine QA_seq ?_
    refine CW_for (ls.length) (by omega) (fun k e I' A' => ∃ ρ', e = [(0, .pointer (some ⟨j, 0, none⟩)), (1, v), (24, v)] ∧ IM.le I I' ∧ Evo ofJ ρ ah ρ' A' ∧ JAt ρ' I' A' j d { s with wr := s.wr || decide (0 < k) } ∧ Dk ρ' I' A' d room true lives (addC c (pname s.turn s.part) (ls.take k)) (sz + frSz (ls.take k))) ([(0, .pointer (some ⟨j, 0, none⟩)), (1, v), (24, v)]) (⟨ρ, rfl, IM.le.refl _, Evo.refl _ _ _, by simpa using hj, by simpa [addC, frSz] using hd⟩) (by repeat (first | exact .nil | refine .cons rfl ?_)) (by rintro k e I ah ⟨_, rfl, _⟩; exact ⟨rfl, rfl, rfl, rfl⟩) rfl rfl rfl rfl ?_ ?_
    · rintro k e I2 A2 hk ⟨ρ2, rfl, hI2, hev, hj2, hd2⟩
      have hj2' := hj2
      obtain ⟨bsv, rv, vs2, j1, j2, j3, j4, j5⟩ := hj2'
      obtain ⟨b, o, cc, hvb, _, hcv⟩ := SlI.at hsl hk
      obtain ⟨u, hu, hul⟩ := hrw k ls[k] (by simp)
      obtain ⟨ua, uc, rfl, _⟩ := hul.form
      have hlk := hsm _ (List.getElem_mem hk)
      have hft := frSz_take ls k hk
      have hfl := frSz_le ls (k + 1)
      have hfb := frameB_len ls[k]
      refine CW_block ?_
      refine CW_seq ?_
      refine CW_region (l := [_, _, _]) ?_
      refine WL_val rfl (PE_index1 und_sl_sl_uint8 te_sl_uint8.size (by rw [← hvb]; rfl) rfl rfl hk) ?_
      refine WL_val rfl (PE_load tc_sl_uint8 rfl (.imm (hI2 _ _ _ (hcv k _ hu)))) ?_
      refine WL_val rfl (PE_assign rfl) ?_
      refine WL_nil ?_
      refine QA_seq ?_
      refine CW_seq ?_
      refine CW_seq ?_
      refine CW_draw (l := [_, _, _, _, _, _, _, _, _, _, _, _, _, _, _, _, _]) 17 (only A2 j) mixed ?_
      refine WA_take 0 rfl (by kernel_rfl) (by kernel_rfl) (by kernel_rfl) (by kernel_rfl) rfl (by kernel_rfl) rfl (IM.le.refl _) (only_sub) (PE_move rfl) ?_
      refine WA_take 1 rfl (by kernel_rfl) (by kernel_rfl) (by kernel_rfl) (by kernel_rfl) rfl (by kernel_rfl) rfl (IM.le.refl _) (only_sub) (PE_nilCheck rfl) ?_
      refine WA_take 2 rfl (by kernel_rfl) (by kernel_rfl) (by kernel_rfl) (by kernel_rfl) rfl (by kernel_rfl) rfl (IM.le.refl _) (only_sub) (PE_fieldAddr fa_journal_Journal_0 rfl) ?_
      refine WA_take 3 rfl (by kernel_rfl) (by kernel_rfl) (by kernel_rfl) (by kernel_rfl) rfl (by kernel_rfl) rfl (IM.le.refl _) (only_sub) (PE_load tc_p_disk_Disk rfl (.own (only_at j1) rfl)) ?_
      refine WA_take 4 rfl (by kernel_rfl) (by kernel_rfl) (by kernel_rfl) (by kernel_rfl) rfl (by kernel_rfl) rfl (IM.le.refl _) (only_sub) (PE_move rfl) ?_
      refine WA_take 5 rfl (by kernel_rfl) (by kernel_rfl) (by kernel_rfl) (by kernel_rfl) rfl (by kernel_rfl) rfl (IM.le.refl _) (only_sub) (PE_nilCheck rfl) ?_
      refine WA_take 6 rfl (by kernel_rfl) (by kernel_rfl) (by kernel_rfl) (by kernel_rfl) rfl (by kernel_rfl) rfl (IM.le.refl _) (only_sub) (PE_fieldAddr fa_journal_Journal_2 rfl) ?_
      refine WA_take 7 rfl (by kernel_rfl) (by kernel_rfl) (by kernel_rfl) (by kernel_rfl) rfl (by kernel_rfl) rfl (IM.le.refl _) (only_sub) (PE_load tc_uint64 rfl (.own (only_at j1) rfl)) ?_
      refine WA_take 8 rfl (by kernel_rfl) (by kernel_rfl) (by kernel_rfl) (by kernel_rfl) rfl (by kernel_rfl) rfl (IM.le.refl _) (only_sub) (PE_move rfl) ?_
      refine WA_take 9 rfl (by kernel_rfl) (by kernel_rfl) (by kernel_rfl) (by kernel_rfl) rfl (by kernel_rfl) rfl (IM.le.refl _) (only_sub) (PE_nilCheck rfl) ?_
      refine WA_take 10 rfl (by kernel_rfl) (by kernel_rfl) (by kernel_rfl) (by kernel_rfl) rfl (by kernel_rfl) rfl (IM.le.refl _) (only_sub) (PE_fieldAddr fa_journal_Journal_3 rfl) ?_
      refine WA_take 11 rfl (by kernel_rfl) (by kernel_rfl) (by kernel_rfl) (by kernel_rfl) rfl (by kernel_rfl) rfl (IM.le.refl _) (only_sub) (PE_load tc_int rfl (.own (only_at j1) rfl)) ?_
      refine WA_take 13 rfl (by kernel_rfl) (by kernel_rfl) (by kernel_rfl) (by kernel_rfl) rfl (by kernel_rfl) rfl (IM.le.refl _) (only_sub) (PE_move rfl) ?_
      refine WA_op 12 rfl rfl (by kernel_rfl) (OE_call (l := [_, _]) E_journal_name rfl rfl (name_spec _ _ _ s.turn s.part ht hp)) ?_ ?_
      · rintro _ I12_12 ah12_12 ⟨_, rfl, _, rfl, rfl, rfl⟩; exact ⟨IM.le.refl _, only_sub⟩
      rintro _ I12_12 ah12_12 ⟨_, rfl, _, rfl, rfl, rfl⟩
      refine WA_op 14 rfl rfl (by kernel_rfl) (OE_call (l := [_]) E_journal_frame rfl rfl (frame_spec _ _ _ _ ls[k] (hul.mono hI2) (by omega))) ?_ ?_
      · rintro _ I12_14 ah12_14 ⟨v14, rfl, hI14, rfl, hv14⟩; exact ⟨hI14, only_sub⟩
      rintro _ I12_14 ah12_14 ⟨v14, rfl, hI14, rfl, hv14⟩
      refine WA_op 15 rfl rfl (by kernel_rfl) (OE_call (l := [_, _, _]) E_disk_Disk_Append rfl rfl (dappend_spec _ _ _ ρ2 d room lives _ _ (hd2.mono hI14) (pname s.turn s.part) (pname_size _ _ ht hp) hg _ (frameB ls[k]) hv14 (by intro h; rw [h] at hfb; simp at hfb) (by omega))) ?_ ?_
      · rintro _ I12_15 ah12_15 ⟨_, rfl, hI15, _, rfl, ρ3, he15, hd15⟩; exact ⟨hI14.trans hI15, only_evo he15 (by rw [j2]; simp [ofD])⟩
      rintro _ I12_15 ah12_15 ⟨_, rfl, hI15, _, rfl, ρ3, he15, hd15⟩
      have hj15 := (hj2.mono (hI14.trans hI15)).dsk he15
      rw [hfb] at hd15
      refine WA_take 16 rfl (by kernel_rfl) (by kernel_rfl) (by kernel_rfl) (by kernel_rfl) rfl (by kernel_rfl) rfl (hI14.trans hI15) (only_evo he15 (by rw [j2]; simp [ofD])) (PE_assign rfl) ?_
      refine WA_done (by kernel_rfl) ?_
      refine QA_seq ?_
      refine CW_seq ?_
      refine CW_region (l := [_, _]) ?_
      refine WL_val rfl (PE_move rfl) ?_
      refine WL_val rfl (PE_nei rfl rfl rfl) ?_
      refine WL_nil ?_
      refine QA_seq ?_
      refine CW_false rfl ?_
      refine CW_skip ?_
      refine QA_seq ?_
      have hj15' := hj15
      obtain ⟨bsv3, rv3, vs3, k1, k2, k3, k4, k5⟩ := hj15'
      refine CW_region (l := [_, _, _, _]) ?_
      refine WL_val rfl (PE_move rfl) ?_
      refine WL_val rfl (PE_nilCheck rfl) ?_
      refine WL_val rfl (PE_fieldAddr fa_journal_Journal_4 rfl) ?_
      refine WL_op rfl (OE_store tc_bool rfl rfl rfl k1 (by simp)) ?_
      rintro _ I15_3 ah15_3 ⟨rfl, rfl, rfl⟩
      have hj16 : JAt ρ3 I12_15 (ah12_15.set j (.cells (jcells d { s with wr := true } bsv3 rv3))) j d { s with wr := true } := JAt.put k2 k3 k4 k5
      have he16 : Evo ofR ρ3 ah12_15 ρ3 (ah12_15.set j (.cells (jcells d { s with wr := true } bsv3 rv3))) := Evo.set _ (.inl k2)
      have hd16 := hd15.jrn he16
      refine WL_nil ?_
      refine QA_block_normal ?_
      exact QA_next _ ⟨ρ3, rfl, hI2.trans (hI14.trans hI15), hev.trans ((he15.mono ofD_J).trans (he16.mono ofR_J)), by simpa using hj16, by rw [List.take_succ_eq_append_getElem hk, addC_snoc, frSz_snoc, ← Nat.add_assoc]; exact hd16⟩ (by repeat (first | exact .nil | refine .cons rfl ?_))
    · rintro e I2 A2 ⟨ρ2, rfl, hI2, hev, hj2, hd2⟩
      rw [List.take_of_length_le (Nat.le_refl _)] at hd2
      refine QA_seq ?_
      refine CW_seq ?_
      refine CW_seq ?_
      refine CW_region (l := [_, _, _]) ?_
      refine WL_val rfl (PE_move rfl) ?_
      refine WL_val rfl (PE_len und_sl_sl_uint8 (by rw [← hva]; rfl)) ?_
      refine WL_val rfl (PE_move rfl) ?_
      refine WL_nil ?_
      refine QA_seq ?_
      refine CW_for (ls.length) (by omega) (fun k e I' A' => ∃ ρ', e = [(0, .pointer (some ⟨j, 0, none⟩)), (55, v)] ∧ IM.le I I' ∧ Evo ofJ ρ ah ρ' A' ∧ JAt ρ' I' A' j d { s with wr := s.wr || decide (0 < ls.length), recs := s.recs ++ ls.take k } ∧ Dk ρ' I' A' d room true lives (addC c (pname s.turn s.part) ls) (sz + frSz ls)) ([(0, .pointer (some ⟨j, 0, none⟩)), (55, v)]) (⟨ρ2, rfl, hI2, hev, by simpa using hj2, hd2⟩) (by repeat (first | exact .nil | refine .cons rfl ?_)) (by rintro k e I ah ⟨_, rfl, _⟩; exact ⟨rfl, rfl, rfl, rfl⟩) rfl rfl rfl rfl ?_ ?_
      · rintro k e I3 A3 hk ⟨ρ3, rfl, hI3, hev3, hj3, hd3⟩
        obtain ⟨bsv, rv, vs2, j1, j2, j3, j4, j5⟩ := hj3
        obtain ⟨b, o, cc, hvb, _, hcv⟩ := SlI.at hsl hk
        obtain ⟨u, hu, hul⟩ := hrw k ls[k] (by simp)
        have hul3 := hul.mono hI3
        obtain ⟨ua, uc, rfl, _⟩ := hul.form
        have hlk := hsm _ (List.getElem_mem hk)
        have hrlen : (s.recs ++ ls.take k).length = s.recs.length + k := by simp; omega
        obtain ⟨ra, rc, rfl, _⟩ := SlI.form j4.1
        refine CW_block ?_
        refine CW_seq ?_
        refine CW_region (l := [_, _, _]) ?_
        refine WL_val rfl (PE_index1 und_sl_sl_uint8 te_sl_uint8.size (by rw [← hvb]; rfl) rfl rfl hk) ?_
        refine WL_val rfl (PE_load tc_sl_uint8 rfl (.imm (hI3 _ _ _ (hcv k _ hu)))) ?_
        refine WL_val rfl (PE_assign rfl) ?_
        refine WL_nil ?_
        refine QA_seq ?_
        obtain ⟨ah0, go, gk, gn⟩ := j4.own
        have j1' := gk j _ j1 (by rw [j2]; simp)
        refine CW_draw (l := [_, _, _, _, _, _, _, _, _, _, _, _]) 11 (ah0) mixed ?_
        refine WA_take 0 rfl (by kernel_rfl) (by kernel_rfl) (by kernel_rfl) (by kernel_rfl) rfl (by kernel_rfl) rfl (IM.le.refl _) (Own.base go) (PE_move rfl) ?_
        refine WA_take 1 rfl (by kernel_rfl) (by kernel_rfl) (by kernel_rfl) (by kernel_rfl) rfl (by kernel_rfl) rfl (IM.le.refl _) (Own.base go) (PE_move rfl) ?_
        refine WA_take 2 rfl (by kernel_rfl) (by kernel_rfl) (by kernel_rfl) (by kernel_rfl) rfl (by kernel_rfl) rfl (IM.le.refl _) (Own.base go) (PE_nilCheck rfl) ?_
        refine WA_take 3 rfl (by kernel_rfl) (by kernel_rfl) (by kernel_rfl) (by kernel_rfl) rfl (by kernel_rfl) rfl (IM.le.refl _) (Own.base go) (PE_fieldAddr fa_journal_Journal_6 rfl) ?_
        refine WA_take 4 rfl (by kernel_rfl) (by kernel_rfl) (by kernel_rfl) (by kernel_rfl) rfl (by kernel_rfl) rfl (IM.le.refl _) (Own.base go) (PE_load tc_sl_sl_uint8 rfl (.own j1' rfl)) ?_
        refine WA_take 5 rfl (by kernel_rfl) (by kernel_rfl) (by kernel_rfl) (by kernel_rfl) rfl (by kernel_rfl) rfl (IM.le.refl _) (Own.base go) (PE_move rfl) ?_
        refine WA_op 6 rfl rfl (by kernel_rfl) (OE_call (l := [_]) E_bytes_Clone rfl rfl (bclone_spec _ _ _ _ ls[k] hul3 (by omega))) ?_ ?_
        · rintro _ I20_6 ah20_6 ⟨v11, rfl, hI11, ho11, _⟩; exact ⟨hI11, fun b x e => Own.base ho11 b x (Own.base go b x e)⟩
        rintro _ I20_6 ah20_6 ⟨v11, rfl, hI11, ho11, _⟩
        refine WA_forget (Own.base ho11) ?_
        have hs11 := ho11.sl
        clear ho11
        obtain ⟨xa, xc, rfl, _⟩ := SlI.form hs11
        refine WA_op 7 rfl rfl (by kernel_rfl) (OE_litI (l := [_]) (vs := [_]) und_sl_sl_uint8 te_sl_uint8 rfl rfl rfl (by simp [Value.cells]) (by decide) rfl rfl) ?_ ?_
        · rintro _ I20_7 ah20_7 ⟨v20_7, rfl, hI20_7, rfl, hv20_7, hn20_7⟩; exact ⟨hI11.trans hI20_7, Own.base go⟩
        rintro _ I20_7 ah20_7 ⟨v20_7, rfl, hI20_7, rfl, hv20_7, hn20_7⟩
        refine WA_op 8 rfl rfl (by kernel_rfl) (OE_append (n := (s.recs ++ ls.take k).length) (m := 1) (vs := vs2) (us := [.slice xa ls[k].length xc]) und_sl_sl_uint8 ⟨_, und_sl_sl_uint8⟩ te_sl_uint8 rfl rfl rfl (go.mono (hI11.trans hI20_7)) (hv20_7.src _) (by simp [Value.oneCell']) (by decide) (by omega) (by omega)) ?_ ?_
        · rintro _ I20_8 ah20_8 ⟨v20_8, rfl, hI20_8, hv20_8, hn20_8⟩; exact ⟨(hI11.trans hI20_7).trans hI20_8, Own.base hv20_8⟩
        rintro _ I20_8 ah20_8 ⟨v20_8, rfl, hI20_8, hv20_8, hn20_8⟩
        obtain ⟨na, nc, rfl, _⟩ := SlI.form hv20_8.sl
        obtain ⟨ρ4, hr3, he3, _⟩ := Rgt.of (ρ := ρ3) (S := fun r => r = .jrec) hv20_8 gk gn rfl
        have j1'' := Own.base hv20_8 _ _ j1'
        have j2'' := (he3 j _ j1 (by rw [j2]; simp)).2.trans j2
        refine WA_take 9 rfl (by kernel_rfl) (by kernel_rfl) (by kernel_rfl) (by kernel_rfl) rfl (by kernel_rfl) rfl ((hI11.trans hI20_7).trans hI20_8) (Own.base hv20_8) (PE_nilCheck rfl) ?_
        refine WA_take 10 rfl (by kernel_rfl) (by kernel_rfl) (by kernel_rfl) (by kernel_rfl) rfl (by kernel_rfl) rfl ((hI11.trans hI20_7).trans hI20_8) (Own.base hv20_8) (PE_fieldAddr fa_journal_Journal_6 rfl) ?_
        refine WA_last 11 rfl rfl (by kernel_rfl) (by kernel_rfl) (OE_store tc_sl_sl_uint8 rfl rfl rfl j1'' (by simp)) ?_
        rintro _ I20_11 ah20_11 ⟨rfl, rfl, rfl⟩
        have hII := (hI11.trans hI20_7).trans hI20_8
        have he4' : Evo (fun r => r = .jrn) ρ4 ah20_8 ρ4 (ah20_8.set j (.cells (jcells d { s with wr := s.wr || decide (0 < ls.length), recs := s.recs ++ ls.take k ++ [ls[k]] } bsv (.slice na ((s.recs ++ ls.take k).length + 1) nc)))) := Evo.set _ j2''
        have hER : Evo ofR ρ3 A3 ρ4 (ah20_8.set j (.cells (jcells d { s with wr := s.wr || decide (0 < ls.length), recs := s.recs ++ ls.take k ++ [ls[k]] } bsv (.slice na ((s.recs ++ ls.take k).length + 1) nc)))) := (he3.mono (by rintro r rfl; exact .inr rfl)).trans (he4'.mono (by rintro r rfl; exact .inl rfl))
        have hj5' : JAt ρ4 I20_8 (ah20_8.set j (.cells (jcells d { s with wr := s.wr || decide (0 < ls.length), recs := s.recs ++ ls.take k ++ [ls[k]] } bsv (.slice na ((s.recs ++ ls.take k).length + 1) nc)))) j d { s with wr := s.wr || decide (0 < ls.length), recs := s.recs ++ ls.take k ++ [ls[k]] } := JAt.put (vs := vs2 ++ [.slice xa ls[k].length xc]) j2'' (j3.mono hII) (by have e : (s.recs ++ ls.take k ++ [ls[k]]).length = (s.recs ++ ls.take k).length + 1 := (by rw [List.length_append]; rfl); show Rgt _ _ _ _ _ (s.recs ++ ls.take k ++ [ls[k]]).length _; rw [e]; exact hr3) ((j5.mono hII).snoc (hs11.mono (hI20_7.trans hI20_8)))
        refine WA_done (by kernel_rfl) ?_
        refine QA_block_normal ?_
        exact QA_next _ ⟨ρ4, rfl, hI3.trans hII, hev3.trans (hER.mono ofR_J), by rw [List.take_succ_eq_append_getElem hk, ← List.append_assoc]; exact hj5', (hd3.mono hII).jrn hER⟩ (by repeat (first | exact .nil | refine .cons rfl ?_))
      · rintro e I3 A3 ⟨ρ3, rfl, hI3, hev3, hj3, hd3⟩
        rw [List.take_of_length_le (Nat.le_refl _)] at hj3
        refine QA_seq ?_
        refine CW_seq ?_
        refine CW_region (l := [_]) ?_
        refine WL_val rfl (PE_assign rfl) ?_
        refine WL_nil ?_
        refine QA_seq ?_
        refine CW_ret ?_
        refine QA_return (rs := [_]) rfl rfl (hI3) (_) (fun _ _ h => h) ?_
        exact ⟨hI3, rfl, ρ3, hev3, hj3, hd3⟩

end Go.Proofs.YthdpebagkfloaaaDoor

