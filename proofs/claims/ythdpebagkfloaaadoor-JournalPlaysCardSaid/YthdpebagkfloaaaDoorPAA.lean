/- journal: its calls as the law sees them. -/
import Derived.Test.YthdpebagkfloaaaDoorPZ
namespace Go.Proofs.YthdpebagkfloaaaDoor
open Go Go.RowKit SL
set_option linter.unusedVariables false
set_option linter.unusedSimpArgs false
set_option maxRecDepth 100000
/-- An open journal, with its disk. -/
def LJ (ρ : Roles) (I : IM) (ah : AH) (j d room lives : Nat) (s : JS) (syn sz : Nat) : Prop :=
  ∃ c, JAt ρ I ah j d s ∧ Dk ρ I ah d room true lives c sz ∧ Jok c s syn ∧ s.lives = lives ∧ s.recs.length ≤ 100000
/-- A disk without one. -/
def LD (ρ : Roles) (I : IM) (ah : AH) (d room : Nat) (on : Bool) (lives t : Nat) (bs : List UInt8) (rs : List (List UInt8)) (n sz : Nat) : Prop :=
  ∃ c, Dk ρ I ah d room on lives c sz ∧ Dok c t bs rs n ∧ n < 100000 ∧ rs.length ≤ 100000
section
variable {w0 : World} {I : IM} {ah : AH} {ρ : Roles} {j d room lives : Nat} {s : JS} {syn sz : Nat} {on : Bool} {t n : Nat} {bs : List UInt8} {rs : List (List UInt8)}
theorem LJ.mono {J : IM} (h : LJ ρ I ah j d room lives s syn sz) (hI : IM.le I J) : LJ ρ J ah j d room lives s syn sz := by
  obtain ⟨c, h1, h2, h3⟩ := h; exact ⟨c, h1.mono hI, h2.mono hI, h3⟩
theorem LD.mono {J : IM} (h : LD ρ I ah d room on lives t bs rs n sz) (hI : IM.le I J) : LD ρ J ah d room on lives t bs rs n sz := by
  obtain ⟨c, h1, h2⟩ := h; exact ⟨c, h1.mono hI, h2⟩
theorem LJ.evo {S : Role → Prop} {ρ' : Roles} {ah' : AH} (h : LJ ρ I ah j d room lives s syn sz) (e : Evo S ρ ah ρ' ah') (hS : ∀ r, r ≠ .out → ¬ S r) : LJ ρ' I ah' j d room lives s syn sz := by
  obtain ⟨c, h1, h2, h3⟩ := h
  exact ⟨c, h1.evo e (hS _ (by simp)) (hS _ (by simp)), h2.evo e (fun r hr => hS r hr.1), h3⟩
theorem LD.evo {S : Role → Prop} {ρ' : Roles} {ah' : AH} (h : LD ρ I ah d room on lives t bs rs n sz) (e : Evo S ρ ah ρ' ah') (hS : ∀ r, r ≠ .out → ¬ S r) : LD ρ' I ah' d room on lives t bs rs n sz := by
  obtain ⟨c, h1, h2⟩ := h
  exact ⟨c, h1.evo e (fun r hr => hS r hr.1), h2⟩
theorem l_new (room : Nat) (h64 : 64 ≤ room) (hr : room ≤ 1048576) :
    SC P w0 n_disk_New [.int .i64 (room : Nat)] I ah (fun v I' ah' => IM.le I I' ∧ ∃ d ρ', v = .tuple #[.pointer (some ⟨d, 0, none⟩), .int .i64 0] ∧ Evo (fun _ => False) ρ ah ρ' ah' ∧ LD ρ' I' ah' d room true 1 0 [] [] 0 0) := by
  refine (knew (ρ := ρ) room h64 hr).mono ?_
  rintro v I' ah' hI ⟨d, ρ', e, he, hD⟩
  exact ⟨hI, d, ρ', e, he, _, hD, dok_new, by omega, by simp⟩
theorem l_open (h : LD ρ I ah d room true lives t bs rs n sz) :
    SC P w0 n_journal_Open [.pointer (some ⟨d, 0, none⟩)] I ah (fun v I' ah' => IM.le I I' ∧ ∃ j ρ' s, v = .tuple #[.pointer (some ⟨j, 0, none⟩), .int .i64 0] ∧ Evo ofJ ρ ah ρ' ah' ∧ LJ ρ' I' ah' j d room lives s rs.length sz ∧ s.recs = rs ∧ s.base = bs ∧ s.turn = t ∧ s.part ≤ n) := by
  obtain ⟨c, h1, h2, h3, h4⟩ := h
  obtain ⟨ho, s, e1, e2, hJ, e3, e4, e5, e6, e7⟩ := dok_open lives h2 h3 (by omega)
  refine (open_spec w0 I ah ρ d room lives c sz h1 t bs 0 n ho).mono ?_
  rintro v I' ah' hI ⟨_, j, ρ', e, he, hj, hd⟩
  rw [e1] at hj
  rw [e2] at hd
  exact ⟨hI, j, ρ', s, e, he, ⟨c, hj, hd, hJ, e7, by rw [e3]; exact h4⟩, e3, e4, e5, e6⟩
theorem l_add (h : LJ ρ I ah j d room lives s syn sz) {v : Value} {ls : List (List UInt8)} (hv : ByRows I v ls) (hls : ∀ l ∈ ls, l.length ≤ 16384) (hroom : sz + frSz ls ≤ room) (hn : s.recs.length + ls.length ≤ 100000) :
    SC P w0 n_journal_Journal_Add [.pointer (some ⟨j, 0, none⟩), v] I ah (fun v I' ah' => IM.le I I' ∧ v = .int .i64 0 ∧ ∃ ρ', Evo ofJ ρ ah ρ' ah' ∧ LJ ρ' I' ah' j d room lives (addJ s ls) syn (sz + frSz ls)) := by
  obtain ⟨c, h1, h2, h3, h4, h5⟩ := h
  have hst := h3.1.small
  have hp := h3.2.2.1
  refine (jadd_spec w0 I ah ρ j d room lives c sz s h1 h2 v ls hv h3.2.1 h4 (by omega) hls (by omega) (by omega) (pname_good (by omega) (by omega)) hroom (by omega)).mono ?_
  rintro v I' ah' hI ⟨_, e, ρ', he, hj, hd⟩
  exact ⟨hI, e, ρ', he, _, hj, hd, jok_add h3 ls hls, h4, by show (s.recs ++ ls).length ≤ _; simp; omega⟩
theorem l_sync (h : LJ ρ I ah j d room lives s syn sz) :
    SC P w0 n_journal_Journal_Sync [.pointer (some ⟨j, 0, none⟩)] I ah (fun v I' ah' => IM.le I I' ∧ v = .int .i64 0 ∧ ∃ ρ', Evo ofJ ρ ah ρ' ah' ∧ LJ ρ' I' ah' j d room lives s s.recs.length sz) := by
  obtain ⟨c, h1, h2, h3, h4, h5⟩ := h
  have hst := h3.1.small
  have hp := h3.2.2.1
  refine (jsync_spec w0 I ah ρ j d room lives c sz s h1 h2 h3.2.1 h4 (by omega) (by omega) (pname_good (by omega) (by omega)) (jok_wr h3)).mono ?_
  rintro v I' ah' hI ⟨_, e, ρ', he, hj, hd⟩
  exact ⟨hI, e, ρ', he.mono ofD_J, _, hj, hd, jok_sync h3, h4, h5⟩
theorem l_keep (h : LJ ρ I ah j d room lives s syn sz) {v : Value} {bs : List UInt8} (hv : BySl I v bs) (hb : bs.length ≤ 65536) (hroom : sz + (bs.length + 28) ≤ room) (ht : s.turn + 1 < 100000) :
    SC P w0 n_journal_Journal_Keep [.pointer (some ⟨j, 0, none⟩), v] I ah (fun v I' ah' => IM.le I I' ∧ v = .int .i64 0 ∧ ∃ ρ', Evo ofJ ρ ah ρ' ah' ∧ LJ ρ' I' ah' j d room lives (keptJ s bs) 0 (sz + (bs.length + 28))) := by
  obtain ⟨c, h1, h2, h3, h4, h5⟩ := h
  have hp := h3.2.2.1
  obtain ⟨hnew, n, hn, hs, h0, hJ⟩ := jok_keep h3 bs hb ht
  refine (keep_spec w0 I ah ρ j d room lives c sz s h1 h2 h3.2.1 h4 v bs hv hb hnew hroom n (by omega) (by omega) (fun p hp => pname_good (by omega) (by omega)) hs h0).mono ?_
  rintro v I' ah' hI ⟨_, e, ρ', he, hj, hd⟩
  exact ⟨hI, e, ρ', he, _, hj, hd, hJ, h4, by show 0 ≤ _; omega⟩
theorem l_crash (h : LJ ρ I ah j d room lives s syn sz) (hp1 : s.part + 1 < 100000) (keep : Nat) (hkeep : keep < 18446744073709551616) (torn : Int) (htorn : -9223372036854775808 ≤ torn ∧ torn < 9223372036854775808) :
    SC P w0 n_disk_Disk_Crash [.pointer (some ⟨d, 0, none⟩), .int .u64 (keep : Nat), .int .i64 torn] I ah (fun v I' ah' => IM.le I I' ∧ ∃ ρ' m n, Evo ofD ρ ah ρ' ah' ∧ LD ρ' I' ah' d room false lives s.turn s.base (s.recs.take m) n sz ∧ syn ≤ m ∧ m ≤ s.recs.length ∧ n ≤ s.part + 1 ∧ (keep = 0 → m = syn) ∧ JAt ρ' I' ah' j d s) := by
  obtain ⟨c, h1, h2, h3, h4, h5⟩ := h
  obtain ⟨m, n, hm1, hm2, hn, hk0, hD⟩ := jok_fell keep torn h3
  refine (dcrash_spec w0 I ah ρ d room lives true c sz h2 keep hkeep torn htorn).mono ?_
  rintro v I' ah' hI ⟨_, ρ', he, hd⟩
  exact ⟨hI, ρ', m, n, he, ⟨_, hd, hD, by omega, by simp; omega⟩, hm1, hm2, hn, hk0, (h1.mono hI).dsk he⟩
theorem l_on (h : LD ρ I ah d room on lives t bs rs n sz) (hl : lives < 100000) :
    SC P w0 n_disk_Disk_On [.pointer (some ⟨d, 0, none⟩)] I ah (fun v I' ah' => IM.le I I' ∧ Evo ofD ρ ah ρ ah' ∧ LD ρ I' ah' d room true (lives + 1) t bs rs n sz) := by
  obtain ⟨c, h1, h2⟩ := h
  refine (kon h1 (by omega)).mono ?_
  rintro v I' ah' hI ⟨e, he, hd⟩
  exact ⟨hI, he, c, hd, h2⟩
theorem l_all (h : LJ ρ I ah j d room lives s syn sz) (hl : ∀ l ∈ s.recs, l.length ≤ 1048576) :
    SC P w0 n_journal_Journal_All [.pointer (some ⟨j, 0, none⟩)] I ah (fun v I' ah' => ah = ah' ∧ ByRows I' v s.recs) := by
  obtain ⟨c, h1, h2, h3, h4, h5⟩ := h
  exact all_spec w0 I ah ρ j d s h1 (by omega) hl
theorem l_base (h : LJ ρ I ah j d room lives s syn sz) :
    SC P w0 n_journal_Journal_Base [.pointer (some ⟨j, 0, none⟩)] I ah (fun v I' ah' => ah = ah' ∧ BySl I' v s.base) := by
  obtain ⟨c, h1, h2, h3, h4, h5⟩ := h
  have := h3.1.len
  exact base_spec w0 I ah ρ j d s h1 (by omega)
theorem l_done (h : LJ ρ I ah j d room lives s syn sz) :
    SC P w0 n_journal_Journal_Done [.pointer (some ⟨j, 0, none⟩)] I ah (fun v I' ah' => I = I' ∧ ah = ah' ∧ v = .bool false) := by
  obtain ⟨c, h1, h2, h3, h4, h5⟩ := h
  have := done_spec w0 I ah ρ j d room lives true c sz s h1 h2
  rw [done_not h3.2.1 h4] at this
  exact this
end

theorem same_spec (w0 : World) (I : IM) (ah : AH) (v u : Value) (a b : List (List UInt8)) (hv : ByRows I v a) (hu : ByRows I u b) (ha : a.length ≤ 1048576) (hb : b.length ≤ 1048576) :
    SC P w0 n_bandboxlaw14_same [v, u] I ah (fun v' I' ah' => I = I' ∧ ah = ah' ∧ v' = .bool (decide (a = b))) := by
  obtain ⟨vs, hvs, hvr⟩ := hv
  obtain ⟨us, hus, hur⟩ := hu
  obtain ⟨va, vc, hva, _⟩ := hvs.form
  obtain ⟨ua, uc, hua, _⟩ := hus.form
  refine SC_enter fn_bandboxlaw14_same rfl rfl (Nat.le_of_ble_eq_true rfl) ?_
  refine CW_seq ?_
  refine CW_region (l := [_]) ?_
  refine WL_val rfl (PE_assign rfl) ?_
  refine WL_nil ?_
  refine QA_seq ?_
  refine CW_seq ?_
  refine CW_seq ?_
  refine CW_region (l := [_, _, _, _, _]) ?_
  refine WL_val rfl (PE_move rfl) ?_
  refine WL_val rfl (PE_len und_sl_sl_uint8 (by rw [← hva]; rfl)) ?_
  refine WL_val rfl (PE_move rfl) ?_
  refine WL_val rfl (PE_len und_sl_sl_uint8 (by rw [← hua]; rfl)) ?_
  refine WL_val rfl (PE_nei (b := decide (a.length ≠ b.length)) rfl rfl (by simp; omega)) ?_
  refine WL_nil ?_
  refine QA_seq ?_
  refine CW_cond rfl (fun c1 => ?_) (fun c1 => ?_)
  · have hne : a.length ≠ b.length := by simpa using c1
    have hab : a ≠ b := by rintro rfl; exact hne rfl
    refine CW_seq ?_
    refine CW_region (l := [_]) ?_
    refine WL_val rfl (PE_assign rfl) ?_
    refine WL_nil ?_
    refine QA_seq ?_
    refine CW_ret ?_
    refine QA_then_ret ?_
    refine QA_return (rs := [_]) rfl rfl (IM.le.refl _) (_) (fun _ _ h => h) ?_
    exact ⟨rfl, rfl, by simp [packRes, hab]⟩
  · have heq : a.length = b.length := by simpa using c1
    refine CW_skip ?_
    refine QA_seq ?_
    refine CW_seq ?_
    refine CW_seq ?_
    refine CW_region (l := [_]) ?_
    refine WL_val rfl (PE_assign rfl) ?_
    refine WL_nil ?_
    refine QA_seq ?_
    refine CW_block ?_
    refine CW_loop (fun m e I' A' => ∃ k, e = [(0, v), (1, u), (5, .int .i64 (k : Nat))] ∧ I = I' ∧ ah = A' ∧ m = a.length - k ∧ k ≤ a.length ∧ a.take k = b.take k) (a.length) (e0 := [(0, v), (1, u), (5, .int .i64 ((0 : Nat) : Int))]) (⟨0, rfl, rfl, rfl, rfl, Nat.zero_le _, rfl⟩) (by repeat (first | exact .nil | refine .cons rfl ?_)) ?_
    rintro m e I ah ⟨k, rfl, rfl, rfl, rfl, hk, hall⟩
    refine CW_seq ?_
    refine CW_seq ?_
    refine CW_region (l := [_, _, _, _]) ?_
    refine WL_val rfl (PE_move rfl) ?_
    refine WL_val rfl (PE_move rfl) ?_
    refine WL_val rfl (PE_len und_sl_sl_uint8 (by rw [← hva]; rfl)) ?_
    refine WL_val rfl (PE_lss (b := decide (k < a.length)) rfl rfl (by simp)) ?_
    refine WL_nil ?_
    refine QA_seq ?_
    refine CW_cond rfl (fun c2 => ?_) (fun c2 => ?_)
    · have hka : k < a.length := by simpa using c2
      have hkb : k < b.length := by omega
      obtain ⟨b1, o1, cc1, hvb, _, hcv⟩ := SlI.at hvs hka
      obtain ⟨x, hx, hxl⟩ := hvr k a[k] (by simp)
      obtain ⟨b2, o2, cc2, hub, _, hcu⟩ := SlI.at hus hkb
      obtain ⟨y, hy, hyl⟩ := hur k b[k] (by simp)
      refine CW_skip ?_
      refine QA_seq ?_
      refine CW_seq ?_
      refine CW_block ?_
      refine CW_seq ?_
      refine CW_drawS (l := [_, _, _, _, _, _, _, _, _, _, _]) 11 mixed ?_
      refine WA_take 0 rfl (by kernel_rfl) (by kernel_rfl) (by kernel_rfl) (by kernel_rfl) rfl (by kernel_rfl) rfl (IM.le.refl _) (fun _ _ h => h) (PE_move rfl) ?_
      refine WA_take 1 rfl (by kernel_rfl) (by kernel_rfl) (by kernel_rfl) (by kernel_rfl) rfl (by kernel_rfl) rfl (IM.le.refl _) (fun _ _ h => h) (PE_move rfl) ?_
      refine WA_take 2 rfl (by kernel_rfl) (by kernel_rfl) (by kernel_rfl) (by kernel_rfl) rfl (by kernel_rfl) rfl (IM.le.refl _) (fun _ _ h => h) (PE_index1 und_sl_sl_uint8 te_sl_uint8.size (by rw [← hvb]; rfl) rfl rfl hka) ?_
      refine WA_take 3 rfl (by kernel_rfl) (by kernel_rfl) (by kernel_rfl) (by kernel_rfl) rfl (by kernel_rfl) rfl (IM.le.refl _) (fun _ _ h => h) (PE_load tc_sl_uint8 rfl (.imm (hcv k _ hx))) ?_
      refine WA_take 4 rfl (by kernel_rfl) (by kernel_rfl) (by kernel_rfl) (by kernel_rfl) rfl (by kernel_rfl) rfl (IM.le.refl _) (fun _ _ h => h) (PE_convBS (l := a[k]) und_sl_uint8 und_uint8 und_string rfl (hxl.src _)) ?_
      refine WA_take 5 rfl (by kernel_rfl) (by kernel_rfl) (by kernel_rfl) (by kernel_rfl) rfl (by kernel_rfl) rfl (IM.le.refl _) (fun _ _ h => h) (PE_move rfl) ?_
      refine WA_take 6 rfl (by kernel_rfl) (by kernel_rfl) (by kernel_rfl) (by kernel_rfl) rfl (by kernel_rfl) rfl (IM.le.refl _) (fun _ _ h => h) (PE_move rfl) ?_
      refine WA_take 7 rfl (by kernel_rfl) (by kernel_rfl) (by kernel_rfl) (by kernel_rfl) rfl (by kernel_rfl) rfl (IM.le.refl _) (fun _ _ h => h) (PE_index1 und_sl_sl_uint8 te_sl_uint8.size (by rw [← hub]; rfl) rfl rfl hkb) ?_
      refine WA_take 8 rfl (by kernel_rfl) (by kernel_rfl) (by kernel_rfl) (by kernel_rfl) rfl (by kernel_rfl) rfl (IM.le.refl _) (fun _ _ h => h) (PE_load tc_sl_uint8 rfl (.imm (hcu k _ hy))) ?_
      refine WA_take 9 rfl (by kernel_rfl) (by kernel_rfl) (by kernel_rfl) (by kernel_rfl) rfl (by kernel_rfl) rfl (IM.le.refl _) (fun _ _ h => h) (PE_convBS (l := b[k]) und_sl_uint8 und_uint8 und_string rfl (hyl.src _)) ?_
      refine WA_take 10 rfl (by kernel_rfl) (by kernel_rfl) (by kernel_rfl) (by kernel_rfl) rfl (by kernel_rfl) rfl (IM.le.refl _) (fun _ _ h => h) (PE_nes (b := decide (a[k] ≠ b[k])) rfl rfl (by simp)) ?_
      refine WA_done (by kernel_rfl) ?_
      refine QA_seq ?_
      refine CW_cond rfl (fun c3 => ?_) (fun c3 => ?_)
      · have hkk : a[k] ≠ b[k] := by simpa using c3
        have hab : a ≠ b := by rintro rfl; exact hkk rfl
        refine CW_seq ?_
        refine CW_region (l := [_]) ?_
        refine WL_val rfl (PE_assign rfl) ?_
        refine WL_nil ?_
        refine QA_seq ?_
        refine CW_ret ?_
        refine QA_block_ret ?_
        refine QA_then_ret ?_
        refine QA_then_ret ?_
        refine QA_block_ret ?_
        refine QA_then_ret ?_
        refine QA_return (rs := [_]) rfl rfl (IM.le.refl _) (_) (fun _ _ h => h) ?_
        exact ⟨rfl, rfl, by simp [packRes, hab]⟩
      · have hkk : a[k] = b[k] := by simpa using c3
        refine CW_skip ?_
        refine QA_block_normal ?_
        refine QA_seq ?_
        refine CW_region (l := [_, _, _]) ?_
        refine WL_val rfl (PE_move rfl) ?_
        refine WL_val rfl (PE_add (r := ((k + 1 : Nat) : Int)) rfl rfl (w64e (by push_cast; rfl) (by omega) (by omega))) ?_
        refine WL_val rfl (PE_assign rfl) ?_
        refine WL_nil ?_
        exact QA_round (a.length - (k + 1)) _ (by omega) ⟨k + 1, rfl, rfl, rfl, rfl, hka, by rw [List.take_succ_eq_append_getElem hka, List.take_succ_eq_append_getElem (by omega : k < b.length), hall, hkk]⟩ (by repeat (first | exact .nil | refine .cons rfl ?_))
    · have hka : k = a.length := by
        have h0 : ¬ k < a.length := (by simpa using c2)
        omega
      have hab : a = b := by
        rw [hka, List.take_of_length_le (Nat.le_refl _), List.take_of_length_le (by omega)] at hall
        exact hall
      refine CW_exit ?_
      refine QA_then_exit ?_
      refine QA_then_exit ?_
      refine QA_block_here ?_
      refine QA_seq ?_
      refine CW_seq ?_
      refine CW_region (l := [_]) ?_
      refine WL_val rfl (PE_assign rfl) ?_
      refine WL_nil ?_
      refine QA_seq ?_
      refine CW_ret ?_
      refine QA_return (rs := [_]) rfl rfl (IM.le.refl _) (_) (fun _ _ h => h) ?_
      exact ⟨rfl, rfl, by simp [packRes, hab]⟩

end Go.Proofs.YthdpebagkfloaaaDoor

