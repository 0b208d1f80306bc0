/- journal: tidy, readPart. -/
import Derived.Test.YthdpebagkfloaaaDoorPR
namespace Go.Proofs.YthdpebagkfloaaaDoor
open Go Go.RowKit SL
set_option linter.unusedVariables false
set_option linter.unusedSimpArgs false
set_option maxRecDepth 100000
def tidyC (c : Cont) (turn : Nat) : Nat → Cont
  | 0 => c
  | n + 1 => (tidyC c turn n).set (pname turn n) none
def only (ah : AH) (j : Nat) : AH := fun b => if b = j then ah b else none
theorem only_some {ah : AH} {j b : Nat} {x : AObj} (h : only ah j b = some x) : b = j ∧ ah b = some x := by
  unfold only at h; split at h
  · rename_i e; exact ⟨e, h⟩
  · cases h
theorem only_at {ah : AH} {j : Nat} {x : AObj} (h : ah j = some x) : only ah j j = some x := by unfold only; rw [if_pos rfl]; exact h
theorem only_sub {ah : AH} {j : Nat} : ∀ b x, only ah j b = some x → ah b = some x := fun b x e => (only_some e).2
theorem only_evo {S : Role → Prop} {ρ ρ' : Roles} {ah ah' : AH} {j : Nat} (e : Evo S ρ ah ρ' ah') (hj : ¬ S (ρ j)) : ∀ b x, only ah j b = some x → ah' b = some x := fun b x h => by
  obtain ⟨hb, h'⟩ := only_some h
  subst hb
  exact (e b x h' hj).1
theorem Cont.set_none {c : Cont} {k : ByteArray} (h : c k = none) : c.set k none = c := by
  funext i; unfold Cont.set; split
  · rename_i e; rw [e, h]
  · rfl
theorem pname_size (turn part : Nat) (h1 : turn < 36 ^ 12) (h2 : part < 36 ^ 12) : (pname turn part).size < 9223372036854775808 := by
  have a := (fmt36_len 11 turn h1).1
  have b := (fmt36_len 11 part h2).1
  show (pname turn part).data.size < _
  unfold pname
  simp; omega

theorem tidy_spec (w0 : World) (I : IM) (ah : AH) (ρ : Roles) (j d room lives : Nat) (c : Cont) (sz : Nat) (s : JS) (hj : JAt ρ I ah j d s) (hd : Dk ρ I ah d room true lives c sz) (turn n : Nat) (ht : turn < 36 ^ 12) (hn : n < 36 ^ 11)
    (hg : ∀ p, p ≤ n → good (pname turn p) = true) (hs : ∀ p, p < n → (tidyC c turn p (pname turn p)).isSome = true) (h0 : tidyC c turn n (pname turn n) = none) :
    SC P w0 n_journal_Journal_tidy [.pointer (some ⟨j, 0, none⟩), .int .u64 (turn : Nat)] I ah (fun v I' ah' => IM.le I I' ∧ ∃ ρ', Evo ofD ρ ah ρ' ah' ∧ Dk ρ' I' ah' d room true lives (tidyC c turn n) sz) := by
  refine SC_enter fn_journal_Journal_tidy rfl rfl (Nat.le_of_ble_eq_true rfl) ?_
  refine CW_seq ?_
  refine CW_region (l := [_]) ?_
  refine WL_val rfl (PE_assign rfl) ?_
  refine WL_nil ?_
  refine QA_seq ?_
  refine CW_block ?_
  refine CW_loop (fun k e I' A' => ∃ ρ' p, e = [(0, .pointer (some ⟨j, 0, none⟩)), (1, .int .u64 (turn : Nat)), (4, .int .i64 (p : Nat))] ∧ IM.le I I' ∧ k = n - p ∧ p ≤ n ∧ Evo ofD ρ ah ρ' A' ∧ JAt ρ' I' A' j d s ∧ Dk ρ' I' A' d room true lives (tidyC c turn p) sz) (n) (e0 := [(0, .pointer (some ⟨j, 0, none⟩)), (1, .int .u64 (turn : Nat)), (4, .int .i64 ((0 : Nat) : Int))]) (⟨ρ, 0, rfl, IM.le.refl _, rfl, Nat.zero_le _, Evo.refl _ _ _, hj, hd⟩) (by repeat (first | exact .nil | refine .cons rfl ?_)) ?_
  rintro k e I2 A2 ⟨ρ2, p, rfl, hI2, rfl, hp, hev, hj2, hd2⟩
  have hj2' := hj2
  obtain ⟨bsv, rv, vs, h1, h2, h3, h4, h5⟩ := hj2
  refine CW_seq ?_
  refine CW_seq ?_
  refine CW_draw (l := [_, _, _, _, _, _, _, _, _]) 9 (only A2 j) mixed ?_
  refine WA_take 0 rfl (by kernel_rfl) (by kernel_rfl) (by kernel_rfl) (by kernel_rfl) rfl (by kernel_rfl) rfl (IM.le.refl _) (only_sub) (PE_move rfl) ?_
  refine WA_take 1 rfl (by kernel_rfl) (by kernel_rfl) (by kernel_rfl) (by kernel_rfl) rfl (by kernel_rfl) rfl (IM.le.refl _) (only_sub) (PE_nilCheck rfl) ?_
  refine WA_take 2 rfl (by kernel_rfl) (by kernel_rfl) (by kernel_rfl) (by kernel_rfl) rfl (by kernel_rfl) rfl (IM.le.refl _) (only_sub) (PE_fieldAddr fa_journal_Journal_0 rfl) ?_
  refine WA_take 3 rfl (by kernel_rfl) (by kernel_rfl) (by kernel_rfl) (by kernel_rfl) rfl (by kernel_rfl) rfl (IM.le.refl _) (only_sub) (PE_load tc_p_disk_Disk rfl (.own (only_at h1) rfl)) ?_
  refine WA_take 4 rfl (by kernel_rfl) (by kernel_rfl) (by kernel_rfl) (by kernel_rfl) rfl (by kernel_rfl) rfl (IM.le.refl _) (only_sub) (PE_move rfl) ?_
  refine WA_take 5 rfl (by kernel_rfl) (by kernel_rfl) (by kernel_rfl) (by kernel_rfl) rfl (by kernel_rfl) rfl (IM.le.refl _) (only_sub) (PE_move rfl) ?_
  refine WA_op 6 rfl rfl (by kernel_rfl) (OE_call (l := [_, _]) E_journal_name rfl rfl (name_spec _ _ _ turn p ht (by omega))) ?_ ?_
  · rintro _ I1_6 ah1_6 ⟨_, rfl, _, rfl, rfl, rfl⟩; exact ⟨IM.le.refl _, only_sub⟩
  rintro _ I1_6 ah1_6 ⟨_, rfl, _, rfl, rfl, rfl⟩
  refine WA_op 7 rfl rfl (by kernel_rfl) (OE_call (l := [_, _]) E_disk_Disk_Drop rfl rfl (kdrop hd2 (pname turn p) (pname_size _ _ ht (by omega)) (hg p hp))) ?_ ?_
  · rintro _ I1_7 ah1_7 ⟨_, rfl, hI7, _, rfl, he7, hd7⟩; exact ⟨hI7, only_evo he7 (by rw [h2]; simp [ofD])⟩
  rintro _ I1_7 ah1_7 ⟨_, rfl, hI7, _, rfl, he7, hd7⟩
  refine WA_take 8 rfl (by kernel_rfl) (by kernel_rfl) (by kernel_rfl) (by kernel_rfl) rfl (by kernel_rfl) rfl (hI7) (only_evo he7 (by rw [h2]; simp [ofD])) (PE_eqi rfl rfl rfl) ?_
  refine WA_done (by kernel_rfl) ?_
  refine QA_seq ?_
  refine CW_cond rfl (fun c1 => ?_) (fun c1 => ?_)
  · have hpn : p < n := by
      rcases Nat.lt_or_ge p n with h | h
      · exact h
      · have hpe : p = n := by omega
        rw [hpe, codeC_none h0] at c1; cases c1
    refine CW_skip ?_
    refine QA_seq ?_
    refine CW_seq ?_
    refine CW_block ?_
    refine CW_skip ?_
    refine QA_block_normal ?_
    refine QA_seq ?_
    refine CW_region (l := [_, _, _]) ?_
    refine WL_val rfl (PE_move rfl) ?_
    refine WL_val rfl (PE_add rfl rfl (w64 (by omega) (by omega))) ?_
    refine WL_val rfl (PE_assign rfl) ?_
    refine WL_nil ?_
    exact QA_round (n - (p + 1)) _ (by omega) ⟨ρ2, p + 1, rfl, hI2.trans hI7, rfl, by omega, hev.trans he7, (hj2'.mono hI7).dsk he7, hd7⟩ (by repeat (first | exact .nil | refine .cons rfl ?_))
  · have hpn : p = n := by
      rcases Nat.lt_or_ge p n with h | h
      · obtain ⟨u, hu⟩ := Option.isSome_iff_exists.1 (hs p h)
        rw [codeC_some hu] at c1; cases c1
      · omega
    subst hpn
    refine CW_exit ?_
    refine QA_then_exit ?_
    refine QA_then_exit ?_
    refine QA_block_here ?_
    refine QA_end (rs := []) rfl rfl (hI2.trans hI7) (_) (fun _ _ h => h) ?_
    exact ⟨hI2.trans hI7, ρ2, hev.trans he7, by rw [Cont.set_none h0] at hd7; exact hd7⟩

end Go.Proofs.YthdpebagkfloaaaDoor

