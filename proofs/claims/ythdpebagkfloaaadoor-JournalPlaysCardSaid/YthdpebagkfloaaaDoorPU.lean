/- journal: Open. -/
import Derived.Test.YthdpebagkfloaaaDoorPT
namespace Go.Proofs.YthdpebagkfloaaaDoor
open Go Go.RowKit SL
set_option linter.unusedVariables false
set_option linter.unusedSimpArgs false
set_option maxRecDepth 100000
theorem wu64e {n r : Int} (h : n = r) (h0 : 0 ≤ r) (h1 : r < 18446744073709551616) : IntKind.u64.wrap n = r := by rw [h]; exact wu64 h0 h1
/-- The turn and the base that a disk tells. -/
def BaseIs (c : Cont) (t : Nat) (bs : List UInt8) : Prop :=
  (c baseK = none ∧ t = 0 ∧ bs = []) ∨ ((c baseK).isSome = true ∧ ∃ x, nextP (bytesC c baseK) = some (x, []) ∧ 8 ≤ x.length ∧ t = ofBig (x.take 8) ∧ bs = x.drop 8)
theorem readBase_spec (w0 : World) (I : IM) (ah : AH) (ρ : Roles) (j d room lives : Nat) (c : Cont) (sz : Nat) (s : JS) (hj : JAt ρ I ah j d s) (hd : Dk ρ I ah d room true lives c sz) (t : Nat) (bs : List UInt8) (hb : BaseIs c t bs) (h0 : s.turn = 0) (h1 : s.base = []) :
    SC P w0 n_journal_Journal_readBase [.pointer (some ⟨j, 0, none⟩)] I ah (fun v I' ah' => IM.le I I' ∧ v = .int .i64 0 ∧ Evo ofR ρ ah ρ ah' ∧ JAt ρ I' ah' j d { s with turn := t, base := bs }) := by
  rcases hb with ⟨hc, rfl, rfl⟩ | ⟨hs, x, hn, hx, rfl, rfl⟩
  · refine (readBase0_spec w0 I ah ρ j d room lives c sz s hj hd hc).mono ?_
    rintro v I' ah' hI ⟨_, rfl, rfl⟩
    refine ⟨hI, rfl, Evo.refl _ _ _, ?_⟩
    have e : ({ s with turn := 0, base := [] } : JS) = s := by cases s; simp_all
    rw [e]; exact hj.mono hI
  · exact readBase1_spec w0 I ah ρ j d room lives c sz s hj hd x hs hn hx
def partsC (c : Cont) (t : Nat) : Nat → Cont
  | 0 => c
  | n + 1 => syncC (partsC c t n) (pname t n)
def partsJ (c : Cont) (t : Nat) (s : JS) : Nat → JS
  | 0 => s
  | n + 1 => readJ (partsJ c t s n) n (bytesC (partsC c t n) (pname t n))
theorem partsJ_turn (c : Cont) (t : Nat) (s : JS) : ∀ n, (partsJ c t s n).turn = s.turn
  | 0 => rfl
  | n + 1 => partsJ_turn c t s n
/-- The disk behind the leavings of the turn before. -/
def swept (c : Cont) (t n0 : Nat) : Cont := if t = 0 then c.set newK none else tidyC (c.set newK none) (t - 1) n0
def freshJ (lives t : Nat) (bs : List UInt8) : JS := ⟨lives, t, 0, false, bs, [], false⟩
/-- What Open asks of a disk: n0 files of the turn before, n of this one. -/
structure Openable (c : Cont) (lives t : Nat) (bs : List UInt8) (n0 n : Nat) : Prop where
  base : BaseIs c t bs
  small : t < 36 ^ 11
  n0small : n0 < 36 ^ 11
  nsmall : n < 36 ^ 11
  good0 : 0 < t → ∀ p, p ≤ n0 → good (pname (t - 1) p) = true
  some0 : 0 < t → ∀ p, p < n0 → (tidyC (c.set newK none) (t - 1) p (pname (t - 1) p)).isSome = true
  none0 : 0 < t → tidyC (c.set newK none) (t - 1) n0 (pname (t - 1) n0) = none
  good1 : ∀ p, p ≤ n → good (pname t p) = true
  some1 : ∀ p, p < n → (partsC (swept c t n0) t p (pname t p)).isSome = true
  none1 : partsC (swept c t n0) t n (pname t n) = none
  few : ∀ p, p ≤ n → (partsJ (swept c t n0) t (freshJ lives t bs) p).recs.length ≤ 1048576

theorem open_spec (w0 : World) (I : IM) (ah : AH) (ρ : Roles) (d room lives : Nat) (c : Cont) (sz : Nat) (hd : Dk ρ I ah d room true lives c sz) (t : Nat) (bs : List UInt8) (n0 n : Nat) (ho : Openable c lives t bs n0 n) :
    SC P w0 n_journal_Open [.pointer (some ⟨d, 0, none⟩)] I ah (fun v I' ah' => IM.le I I' ∧ ∃ j ρ', v = .tuple #[.pointer (some ⟨j, 0, none⟩), .int .i64 0] ∧ Evo ofJ ρ ah ρ' ah' ∧ JAt ρ' I' ah' j d (partsJ (swept c t n0) t (freshJ lives t bs) n) ∧ Dk ρ' I' ah' d room true lives (partsC (swept c t n0) t n) sz) := by
  have hts := ho.small
  have hns := ho.nsmall
  have hn0s := ho.n0small
  refine SC_enter fn_journal_Open rfl rfl (Nat.le_of_ble_eq_true rfl) ?_
  refine CW_seq ?_
  refine CW_region (l := [_, _]) ?_
  refine WL_val rfl (PE_assign rfl) ?_
  refine WL_val rfl (PE_assign rfl) ?_
  refine WL_nil ?_
  refine QA_seq ?_
  refine CW_seq ?_
  refine CW_seq ?_
  refine CW_region (l := [_, _, _]) ?_
  refine WL_val rfl (PE_move rfl) ?_
  refine WL_op rfl (OE_call (l := [_]) E_disk_Disk_Power rfl rfl (kpower hd)) ?_
  rintro _ I1_1 ah1_1 ⟨_, rfl, _, rfl, rfl, rfl⟩
  refine WL_val rfl (PE_un rfl (rfl)) ?_
  refine WL_nil ?_
  refine QA_seq ?_
  refine CW_false rfl ?_
  refine CW_skip ?_
  refine QA_seq ?_
  refine CW_seq ?_
  refine CW_region (l := [_, _, _, _, _, _]) ?_
  refine WL_val rfl (PE_move rfl) ?_
  refine WL_val rfl (PE_move rfl) ?_
  refine WL_op rfl (OE_call (l := [_]) E_disk_Disk_Lives rfl rfl (klives hd)) ?_
  rintro _ I3_2 ah3_2 ⟨_, rfl, _, rfl, rfl, rfl⟩
  refine WL_val rfl (PE_buildS (l := [_, _]) (vs := [_, _, _, _, _, _, _, _]) ts_journal_Journal rfl rfl) ?_
  refine WL_op rfl (OE_box rfl rfl) ?_
  rintro _ I3_4 ah3_4 ⟨b3_4, rfl, rfl, rfl, hb3_4, hw3_4⟩
  have hj3 : JAt (ρ.set b3_4 .jrn) I (ah.set b3_4 (.cells (jcells d (freshJ lives 0 []) (.slice none 0 0) (.slice none 0 0)))) b3_4 d (freshJ lives 0 []) := ⟨_, _, [], AH.set_same _ _ _, by simp [Roles.set], BySl.nil _, Rgt.nil _ _ _ _, Rows.nil _⟩
  have eN : Evo (fun _ => False) ρ ah (ρ.set b3_4 .jrn) (ah.set b3_4 (.cells (jcells d (freshJ lives 0 []) (.slice none 0 0) (.slice none 0 0)))) := Evo.new _ _ hb3_4
  have hd3 := hd.evo eN (fun _ _ h => h)
  change WL _ _ _ _ _ (ah.set b3_4 (.cells (jcells d (freshJ lives 0 []) (.slice none 0 0) (.slice none 0 0)))) _
  generalize ah.set b3_4 (.cells (jcells d (freshJ lives 0 []) (.slice none 0 0) (.slice none 0 0))) = ah3 at hj3 eN hd3 ⊢
  generalize ρ.set b3_4 .jrn = ρ3 at hj3 eN hd3
  refine WL_val rfl (PE_assign rfl) ?_
  refine WL_nil ?_
  refine QA_seq ?_
  refine CW_seq ?_
  refine CW_seq ?_
  refine CW_region (l := [_, _, _]) ?_
  refine WL_val rfl (PE_move rfl) ?_
  refine WL_op rfl (OE_call (l := [_]) E_journal_Journal_readBase rfl rfl (readBase_spec _ _ _ ρ3 b3_4 d room lives c sz _ hj3 hd3 t bs ho.base rfl rfl)) ?_
  rintro _ I4_1 ah4_1 ⟨_, rfl, hI4, _, rfl, he4, hj4⟩
  replace hj4 : JAt ρ3 I4_1 ah4_1 b3_4 d (freshJ lives t bs) := hj4
  have hd4 := (hd3.mono hI4).jrn he4
  refine WL_val rfl (PE_assign rfl) ?_
  refine WL_nil ?_
  refine QA_seq ?_
  refine CW_seq ?_
  refine CW_region (l := [_, _]) ?_
  refine WL_val rfl (PE_move rfl) ?_
  refine WL_val rfl (PE_nei rfl rfl rfl) ?_
  refine WL_nil ?_
  refine QA_seq ?_
  refine CW_false rfl ?_
  refine CW_skip ?_
  refine QA_seq ?_
  refine CW_seq ?_
  refine CW_region (l := [_, _]) ?_
  refine WL_val rfl (PE_move rfl) ?_
  refine WL_op rfl (OE_call (l := [_, _]) E_disk_Disk_Drop rfl rfl (kdrop hd4 newK (by decide) good_new)) ?_
  rintro _ I7_1 ah7_1 ⟨_, rfl, hI7, _, rfl, he7, hd7⟩
  have hj7 := (hj4.mono hI7).dsk he7
  have hj7' := hj7
  obtain ⟨bsv, rv, vs, j1, j2, j3, j4, j5⟩ := hj7'
  have hE7 := (eN.mono (fun _ h => h.elim)).trans ((he4.mono ofR_J).trans (he7.mono ofD_J))
  refine WL_nil ?_
  refine QA_seq ?_
  refine CW_join (fun e I' A' => ∃ ρ1, e = [(0, .pointer (some ⟨d, 0, none⟩)), (4, .pointer (some ⟨b3_4, 0, none⟩))] ∧ IM.le I7_1 I' ∧ Evo ofD ρ3 ah7_1 ρ1 A' ∧ Dk ρ1 I' A' d room true lives (swept c t n0) sz) ?_ ?_
  · refine CW_seq ?_
    rcases Nat.eq_zero_or_pos t with ht0 | ht0
    · skip
      refine CW_region (l := [_, _, _, _, _]) ?_
      refine WL_val rfl (PE_move rfl) ?_
      refine WL_val rfl (PE_nilCheck rfl) ?_
      refine WL_val rfl (PE_fieldAddr fa_journal_Journal_2 rfl) ?_
      refine WL_val rfl (PE_load tc_uint64 rfl (.own j1 rfl)) ?_
      refine WL_val rfl (PE_gtr (b := false) rfl rfl (by simp [freshJ, ht0])) ?_
      refine WL_nil ?_
      refine QA_seq ?_
      refine CW_false rfl ?_
      refine CW_skip ?_
      exact QA_join _ ⟨ρ3, rfl, IM.le.refl _, Evo.refl _ _ _, by rw [swept, if_pos ht0]; exact hd7⟩ (by repeat (first | exact .nil | refine .cons rfl ?_))
    · skip
      refine CW_region (l := [_, _, _, _, _]) ?_
      refine WL_val rfl (PE_move rfl) ?_
      refine WL_val rfl (PE_nilCheck rfl) ?_
      refine WL_val rfl (PE_fieldAddr fa_journal_Journal_2 rfl) ?_
      refine WL_val rfl (PE_load tc_uint64 rfl (.own j1 rfl)) ?_
      refine WL_val rfl (PE_gtr (b := true) rfl rfl (by simp [freshJ]; omega)) ?_
      refine WL_nil ?_
      refine QA_seq ?_
      refine CW_true rfl ?_
      refine CW_region (l := [_, _, _, _, _, _, _]) ?_
      refine WL_val rfl (PE_move rfl) ?_
      refine WL_val rfl (PE_move rfl) ?_
      refine WL_val rfl (PE_nilCheck rfl) ?_
      refine WL_val rfl (PE_fieldAddr fa_journal_Journal_2 rfl) ?_
      refine WL_val rfl (PE_load tc_uint64 rfl (.own j1 rfl)) ?_
      refine WL_val rfl (PE_sub (r := ((t - 1 : Nat) : Int)) rfl rfl (wu64e (by simp [freshJ]; omega) (by omega) (by omega))) ?_
      refine WL_op rfl (OE_call (l := [_, _]) E_journal_Journal_tidy rfl rfl (tidy_spec _ _ _ ρ3 b3_4 d room lives _ sz _ hj7 hd7 (t - 1) n0 (by omega) (by omega) (ho.good0 ht0) (ho.some0 ht0) (ho.none0 ht0))) ?_
      rintro _ I9_6 ah9_6 ⟨_, rfl, hI9, _, ρ9, he9, hd9⟩
      refine WL_nil ?_
      exact QA_join _ ⟨ρ9, rfl, hI9, he9, by rw [swept, if_neg (by omega)]; exact hd9⟩ (by repeat (first | exact .nil | refine .cons rfl ?_))
  · rintro _ I9 A9 ⟨ρ9, rfl, hI9, he9, hd9⟩
    have hj9 := (hj7.mono hI9).dsk he9
    have hE9 := hE7.trans (he9.mono ofD_J)
    refine CW_seq ?_
    refine CW_seq ?_
    refine CW_region (l := [_]) ?_
    refine WL_val rfl (PE_assign rfl) ?_
    refine WL_nil ?_
    refine QA_seq ?_
    refine CW_block ?_
    refine CW_loop (fun k e I' A' => ∃ ρ' p, e = [(4, .pointer (some ⟨b3_4, 0, none⟩)), (6, .int .i64 (p : Nat))] ∧ IM.le I I' ∧ k = n - p ∧ p ≤ n ∧ Evo ofJ ρ ah ρ' A' ∧ JAt ρ' I' A' b3_4 d (partsJ (swept c t n0) t (freshJ lives t bs) p) ∧ Dk ρ' I' A' d room true lives (partsC (swept c t n0) t p) sz) (n) (e0 := [(4, .pointer (some ⟨b3_4, 0, none⟩)), (6, .int .i64 ((0 : Nat) : Int))]) (⟨ρ9, 0, rfl, hI4.trans (hI7.trans hI9), rfl, Nat.zero_le _, hE9, hj9, hd9⟩) (by repeat (first | exact .nil | refine .cons rfl ?_)) ?_
    rintro k e I2 A2 ⟨ρ2, p, rfl, hI2, rfl, hp, hev, hj2, hd2⟩
    have htn := partsJ_turn (swept c t n0) t (freshJ lives t bs) p
    rw [show (freshJ lives t bs).turn = t from rfl] at htn
    refine CW_seq ?_
    refine CW_seq ?_
    rcases Nat.lt_or_ge p n with hpn | hpn
    · obtain ⟨u, hu⟩ := Option.isSome_iff_exists.1 (ho.some1 p hpn)
      refine CW_region (l := [_, _, _]) ?_
      refine WL_val rfl (PE_move rfl) ?_
      refine WL_val rfl (PE_move rfl) ?_
      refine WL_op rfl (OE_call (l := [_, _]) E_journal_Journal_readPart rfl rfl (readPart1_spec _ _ _ ρ2 b3_4 d room lives _ sz _ hj2 hd2 p (by rw [htn]; omega) (by omega) (by rw [htn]; exact ho.good1 p hp) u (by rw [htn]; exact hu) (ho.few p hp))) ?_
      rintro _ I11_2 ah11_2 ⟨_, rfl, hI11, _, rfl, ρ11, he11, hj11, hd11⟩
      rw [htn] at hj11 hd11
      refine WL_nil ?_
      refine QA_seq ?_
      refine CW_true rfl ?_
      refine CW_skip ?_
      refine QA_seq ?_
      refine CW_seq ?_
      refine CW_block ?_
      refine CW_skip ?_
      refine QA_block_normal ?_
      refine QA_seq ?_
      refine CW_region (l := [_, _, _]) ?_
      refine WL_val rfl (PE_move rfl) ?_
      refine WL_val rfl (PE_add (r := ((p + 1 : Nat) : Int)) rfl rfl (w64e (by push_cast; rfl) (by omega) (by omega))) ?_
      refine WL_val rfl (PE_assign rfl) ?_
      refine WL_nil ?_
      exact QA_round (n - (p + 1)) _ (by omega) ⟨ρ11, p + 1, rfl, hI2.trans hI11, rfl, by omega, hev.trans he11, hj11, hd11⟩ (by repeat (first | exact .nil | refine .cons rfl ?_))
    · obtain rfl : p = n := by omega
      refine CW_region (l := [_, _, _]) ?_
      refine WL_val rfl (PE_move rfl) ?_
      refine WL_val rfl (PE_move rfl) ?_
      refine WL_op rfl (OE_call (l := [_, _]) E_journal_Journal_readPart rfl rfl (readPart0_spec _ _ _ ρ2 b3_4 d room lives _ sz _ hj2 hd2 p (by rw [htn]; omega) (by omega) (by rw [htn]; exact ho.good1 p hp) (by rw [htn]; exact ho.none1))) ?_
      rintro _ I11_2 ah11_2 ⟨_, rfl, hI11, _, rfl, rfl⟩
      refine WL_nil ?_
      refine QA_seq ?_
      refine CW_false rfl ?_
      refine CW_exit ?_
      refine QA_then_exit ?_
      refine QA_then_exit ?_
      refine QA_block_here ?_
      refine QA_seq ?_
      refine CW_seq ?_
      refine CW_region (l := [_, _, _]) ?_
      refine WL_val rfl (PE_move rfl) ?_
      refine WL_val rfl (PE_assign rfl) ?_
      refine WL_val rfl (PE_assign rfl) ?_
      refine WL_nil ?_
      refine QA_seq ?_
      refine CW_ret ?_
      refine QA_return (rs := [_, _]) rfl rfl (hI2.trans hI11) (_) (fun _ _ h => h) ?_
      exact ⟨hI2.trans hI11, b3_4, ρ2, rfl, hev, hj2.mono hI11, hd2.mono hI11⟩

end Go.Proofs.YthdpebagkfloaaaDoor

