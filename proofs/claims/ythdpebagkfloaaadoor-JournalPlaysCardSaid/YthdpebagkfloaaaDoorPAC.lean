/- law 14: JournalKnown, the walk. -/
import Derived.Test.YthdpebagkfloaaaDoorPAB
namespace Go.Proofs.YthdpebagkfloaaaDoor
open Go Go.RowKit SL
set_option linter.unusedVariables false
set_option linter.unusedSimpArgs false
set_option maxRecDepth 100000

theorem openOff_spec (w0 : World) (I : IM) (ah : AH) (ρ : Roles) (d room lives : Nat) (c : Cont) (sz : Nat) (hd : Dk ρ I ah d room false lives c sz) :
    SC P w0 n_journal_Open [.pointer (some ⟨d, 0, none⟩)] I ah (fun v I' ah' => I = I' ∧ ah = ah' ∧ v = .tuple #[.pointer none, .int .i64 7]) := by
  refine SC_enter fn_journal_Open rfl rfl (Nat.le_of_ble_eq_true rfl) ?_
  refine CW_seq ?_
  refine CW_region (l := [_, _]) ?_
  refine WL_val rfl (PE_assign rfl) ?_
  refine WL_val rfl (PE_assign rfl) ?_
  refine WL_nil ?_
  refine QA_seq ?_
  refine CW_seq ?_
  refine CW_seq ?_
  refine CW_region (l := [_, _, _]) ?_
  refine WL_val rfl (PE_move rfl) ?_
  refine WL_op rfl (OE_call (l := [_]) E_disk_Disk_Power rfl rfl (kpower hd)) ?_
  rintro _ I1_1 ah1_1 ⟨_, rfl, _, rfl, rfl, rfl⟩
  refine WL_val rfl (PE_un rfl (rfl)) ?_
  refine WL_nil ?_
  refine QA_seq ?_
  refine CW_true rfl ?_
  refine CW_seq ?_
  refine CW_region (l := [_, _]) ?_
  refine WL_val rfl (PE_assign rfl) ?_
  refine WL_val rfl (PE_assign rfl) ?_
  refine WL_nil ?_
  refine QA_seq ?_
  refine CW_ret ?_
  refine QA_then_ret ?_
  refine QA_return (rs := [_, _]) rfl rfl (IM.le.refl _) (_) (fun _ _ h => h) ?_
  exact ⟨rfl, rfl, rfl⟩

section
variable {w0 : World} {I : IM} {ah : AH} {ρ : Roles} {j d room lives : Nat} {s : JS} {syn sz : Nat} {on : Bool} {t n : Nat} {bs : List UInt8} {rs : List (List UInt8)}
theorem l_openOff (h : LD ρ I ah d room false lives t bs rs n sz) :
    SC P w0 n_journal_Open [.pointer (some ⟨d, 0, none⟩)] I ah (fun v I' ah' => I = I' ∧ ah = ah' ∧ v = .tuple #[.pointer none, .int .i64 7]) := by
  obtain ⟨c, h1, _⟩ := h; exact openOff_spec w0 I ah ρ d room lives c sz h1
theorem l_addLimit (h : LJ ρ I ah j d room lives s syn sz) {v : Value} {ls : List (List UInt8)} (hv : ByRows I v ls) (hn : ls.length ≤ 1048576) (hbig : ∃ l ∈ ls, 16384 < l.length) :
    SC P w0 n_journal_Journal_Add [.pointer (some ⟨j, 0, none⟩), v] I ah (fun v I' ah' => I = I' ∧ ah = ah' ∧ v = .int .i64 2) := by
  obtain ⟨c, h1, h2, h3, h4, h5⟩ := h
  exact addLimit_spec w0 I ah ρ j d room lives true c sz s h1 h2 v ls hv (done_not h3.2.1 h4) hn hbig
theorem l_keepLimit (h : LJ ρ I ah j d room lives s syn sz) {v : Value} {bs : List UInt8} (hv : BySl I v bs) (hb : 65536 < bs.length) :
    SC P w0 n_journal_Journal_Keep [.pointer (some ⟨j, 0, none⟩), v] I ah (fun v I' ah' => I = I' ∧ ah = ah' ∧ v = .int .i64 2) := by
  obtain ⟨c, h1, h2, h3, h4, h5⟩ := h
  exact keepLimit_spec w0 I ah ρ j d room lives true c sz s h1 h2 (done_not h3.2.1 h4) v bs hv hb
theorem l_addOff (hj : JAt ρ I ah j d s) (h : LD ρ I ah d room on lives t bs rs n sz) (v : Value) (hdn : (s.full || !on || decide (lives ≠ s.lives)) = true) :
    SC P w0 n_journal_Journal_Add [.pointer (some ⟨j, 0, none⟩), v] I ah (fun v I' ah' => I = I' ∧ ah = ah' ∧ v = .int .i64 7) := by
  obtain ⟨c, h1, _⟩ := h; exact addOff_spec w0 I ah ρ j d room lives on c sz s hj h1 v hdn
theorem l_syncOff (hj : JAt ρ I ah j d s) (h : LD ρ I ah d room on lives t bs rs n sz) (hdn : (s.full || !on || decide (lives ≠ s.lives)) = true) :
    SC P w0 n_journal_Journal_Sync [.pointer (some ⟨j, 0, none⟩)] I ah (fun v I' ah' => I = I' ∧ ah = ah' ∧ v = .int .i64 7) := by
  obtain ⟨c, h1, _⟩ := h; exact jsyncOff_spec w0 I ah ρ j d room lives on c sz s hj h1 hdn
theorem l_doneOff (hj : JAt ρ I ah j d s) (h : LD ρ I ah d room on lives t bs rs n sz) (hdn : (s.full || !on || decide (lives ≠ s.lives)) = true) :
    SC P w0 n_journal_Journal_Done [.pointer (some ⟨j, 0, none⟩)] I ah (fun v I' ah' => I = I' ∧ ah = ah' ∧ v = .bool true) := by
  obtain ⟨c, h1, _⟩ := h
  have := done_spec w0 I ah ρ j d room lives on c sz s hj h1
  rw [hdn] at this; exact this
end
theorem zeros_by {I : IM} {b n : Nat} (h : ∀ i u, (List.replicate n (Value.int .u8 0))[i]? = some u → I b i = some u) : BySl I (.slice (some ⟨b, 0, none⟩) n n) (List.replicate n 0) := by
  have hl : (List.replicate n (0 : UInt8)).length = n := by simp
  unfold BySl
  rw [hl]
  exact .inr ⟨b, 0, n, rfl, Nat.le_refl _, by simp, fun i u e => by rw [Nat.zero_add]; exact h i u (by simpa [bv] using e)⟩

set_option maxHeartbeats 4000000 in
theorem known_walk (w0 : World) (I : IM) (ah : AH) :
    SC P w0 n_bandboxlaw14_JournalKnown [] I ah (fun v I' ah' => ah = ah' ∧ v = .bool true) := by
  refine SC_enter fn_bandboxlaw14_JournalKnown rfl rfl (Nat.le_of_ble_eq_true rfl) ?_
  refine CW_seq ?_
  refine CW_region (l := [_]) ?_
  refine WL_val rfl (PE_assign rfl) ?_
  refine WL_nil ?_
  refine QA_seq ?_
  refine CW_seq ?_
  refine CW_seq ?_
  refine CW_region (l := [_, _]) ?_
  refine WL_op rfl (OE_call (l := []) E_bandboxlaw14_awake rfl rfl (awake_spec _ _ _)) ?_
  rintro _ I1_0 ah1_0 ⟨_, rfl, hI1, rfl, rfl⟩
  refine WL_val rfl (PE_un rfl (rfl)) ?_
  refine WL_nil ?_
  refine QA_seq ?_
  refine CW_false rfl ?_
  refine CW_skip ?_
  refine QA_seq ?_
  refine CW_seq ?_
  refine CW_region (l := [_, _, _, _, _, _]) ?_
  refine WL_op rfl (OE_call (l := [_]) E_disk_New rfl rfl (l_new (ρ := outR) 262144 (by omega) (by omega))) ?_
  rintro _ I3_0 ah3_0 ⟨_, rfl, hI3, _, d, ρ3, rfl, he3, hd3⟩
  refine WL_val rfl (PE_move rfl) ?_
  refine WL_val rfl (PE_extract rfl rfl) ?_
  refine WL_val rfl (PE_extract rfl rfl) ?_
  refine WL_val rfl (PE_assign rfl) ?_
  refine WL_val rfl (PE_assign rfl) ?_
  refine WL_nil ?_
  refine QA_seq ?_
  refine CW_seq ?_
  refine CW_region (l := [_, _, _, _, _, _, _]) ?_
  refine WL_val rfl (PE_move rfl) ?_
  refine WL_op rfl (OE_call (l := [_]) E_journal_Open rfl rfl (l_open hd3)) ?_
  rintro _ I4_1 ah4_1 ⟨_, rfl, hI4, _, j, ρ4, s4, rfl, he4, hj4, hr4, hb4, ht4, hp4⟩
  refine WL_val rfl (PE_move rfl) ?_
  refine WL_val rfl (PE_extract rfl rfl) ?_
  refine WL_val rfl (PE_extract rfl rfl) ?_
  refine WL_val rfl (PE_assign rfl) ?_
  refine WL_val rfl (PE_assign rfl) ?_
  refine WL_nil ?_
  refine QA_seq ?_
  refine CW_seq ?_
  refine CW_region (l := [_, _, _, _, _, _, _]) ?_
  refine WL_val rfl (PE_move rfl) ?_
  refine WL_op rfl (OE_lit (l := [_]) (vs := [_]) und_sl_uint8 te_uint8 rfl rfl rfl (by simp [Value.cells]) (by decide) rfl) ?_
  rintro _ I5_1 ah5_1 ⟨b5_1, rfl, rfl, rfl, hb5_1, hw5_1⟩
  refine WL_op rfl (OE_convLL und_sl_uint8 und_uint8 rfl rfl (AH.set_same _ _ _) rfl) ?_
  rintro _ I5_2 ah5_2 ⟨rfl, hIc5_1, hvc5_1, rfl⟩
  rw [AH.del_set, AH.del_none _ hb5_1]
  obtain ⟨N5, hN5⟩ : ∃ N : Nat, N = 16385 := ⟨_, rfl⟩
  have hNi5 : (16385 : Int) = (N5 : Int) := (by rw [hN5]; rfl)
  rw [hNi5]
  refine WL_op rfl (OE_make (n := N5) (c := N5) und_sl_uint8 te_uint8 rfl rfl rfl rfl (Nat.le_refl _) (by rw [hN5]; decide) (by rw [hN5]; decide)) ?_
  rintro _ I5_3 ah5_3 ⟨b5_3, rfl, rfl, rfl, hb5_3, hw5_3⟩
  refine WL_freeze (AH.set_same _ _ _) ?_
  rintro If5_3 hIf5_3 hz5_3
  rw [AH.del_set, AH.del_none _ hb5_3]
  have hvz5_3 := zeros_by hz5_3
  refine WL_op rfl (OE_litI (l := [_, _]) (vs := [_, _]) und_sl_sl_uint8 te_sl_uint8 rfl rfl rfl (by simp [Value.cells]) (by decide) rfl rfl) ?_
  rintro _ I5_4 ah5_4 ⟨v5_4, rfl, hI5_4, rfl, hv5_4, hn5_4⟩
  refine WL_op rfl (OE_call (l := [_, _]) E_journal_Journal_Add rfl rfl (l_addLimit (ls := [[120], List.replicate N5 0]) (hj4.mono ((hIc5_1.trans hIf5_3).trans hI5_4)) (Rows.two (BySl.mono hvc5_1 (hIf5_3.trans hI5_4)) (hvz5_3.mono hI5_4) hv5_4) (by simp) ⟨List.replicate N5 0, by simp, by rw [List.length_replicate]; omega⟩)) ?_
  rintro _ I5_5 ah5_5 ⟨_, rfl, _, rfl, rfl, rfl⟩
  have hj5 := hj4.mono ((hIc5_1.trans hIf5_3).trans hI5_4)
  refine WL_val rfl (PE_assign rfl) ?_
  refine WL_nil ?_
  refine QA_seq ?_
  refine CW_seq ?_
  refine CW_region (l := [_, _, _, _]) ?_
  refine WL_val rfl (PE_move rfl) ?_
  refine WL_op rfl (OE_call (l := [_]) E_journal_Journal_All rfl rfl (l_all hj5 (by rw [hr4]; simp))) ?_
  rintro _ I6_1 ah6_1 ⟨v61, rfl, hI61, rfl, hr61⟩
  rw [hr4] at hr61
  obtain ⟨vs61, hsl61, _⟩ := hr61
  obtain ⟨a61, c61, rfl, _⟩ := hsl61.form
  refine WL_val rfl (PE_len und_sl_sl_uint8 rfl) ?_
  refine WL_val rfl (PE_assign rfl) ?_
  refine WL_nil ?_
  refine QA_seq ?_
  refine CW_seq ?_
  refine CW_region (l := [_, _, _, _]) ?_
  refine WL_val rfl (PE_move rfl) ?_
  obtain ⟨N7, hN7⟩ : ∃ N : Nat, N = 65537 := ⟨_, rfl⟩
  have hNi7 : (65537 : Int) = (N7 : Int) := (by rw [hN7]; rfl)
  rw [hNi7]
  refine WL_op rfl (OE_make (n := N7) (c := N7) und_sl_uint8 te_uint8 rfl rfl rfl rfl (Nat.le_refl _) (by rw [hN7]; decide) (by rw [hN7]; decide)) ?_
  rintro _ I7_1 ah7_1 ⟨b7_1, rfl, rfl, rfl, hb7_1, hw7_1⟩
  refine WL_freeze (AH.set_same _ _ _) ?_
  rintro If7_1 hIf7_1 hz7_1
  rw [AH.del_set, AH.del_none _ hb7_1]
  have hvz7_1 := zeros_by hz7_1
  refine WL_op rfl (OE_call (l := [_, _]) E_journal_Journal_Keep rfl rfl (l_keepLimit (hj5.mono (hI61.trans hIf7_1)) hvz7_1 (by rw [List.length_replicate]; omega))) ?_
  rintro _ I7_2 ah7_2 ⟨_, rfl, _, rfl, rfl, rfl⟩
  have hj7 := hj5.mono (hI61.trans hIf7_1)
  refine WL_val rfl (PE_assign rfl) ?_
  refine WL_nil ?_
  refine QA_seq ?_
  refine CW_seq ?_
  refine CW_region (l := [_, _, _, _, _]) ?_
  refine WL_val rfl (PE_move rfl) ?_
  refine WL_op rfl (OE_lit (l := [_]) (vs := [_]) und_sl_uint8 te_uint8 rfl rfl rfl (by simp [Value.cells]) (by decide) rfl) ?_
  rintro _ I8_1 ah8_1 ⟨b8_1, rfl, rfl, rfl, hb8_1, hw8_1⟩
  refine WL_op rfl (OE_convLL und_sl_uint8 und_uint8 rfl rfl (AH.set_same _ _ _) rfl) ?_
  rintro _ I8_2 ah8_2 ⟨rfl, hIc8_1, hvc8_1, rfl⟩
  rw [AH.del_set, AH.del_none _ hb8_1]
  refine WL_op rfl (OE_litI (l := [_]) (vs := [_]) und_sl_sl_uint8 te_sl_uint8 rfl rfl rfl (by simp [Value.cells]) (by decide) rfl rfl) ?_
  rintro _ I8_3 ah8_3 ⟨v8_3, rfl, hI8_3, rfl, hv8_3, hn8_3⟩
  refine WL_op rfl (OE_call (l := [_, _]) E_journal_Journal_Add rfl rfl (l_add (ls := [[112]]) (hj7.mono (hIc8_1.trans hI8_3)) (Rows.one (BySl.mono hvc8_1 hI8_3) hv8_3) (by simp) (by simp [frSz]) (by simp [hr4]))) ?_
  rintro _ I8_4 ah8_4 ⟨_, rfl, hI8, _, rfl, ρ8, he8, hj8⟩
  refine WL_nil ?_
  refine QA_seq ?_
  refine CW_seq ?_
  refine CW_region (l := [_, _, _, _, _]) ?_
  refine WL_val rfl (PE_move rfl) ?_
  refine WL_op rfl (OE_lit (l := [_, _, _, _]) (vs := [_, _, _, _]) und_sl_uint8 te_uint8 rfl rfl rfl (by simp [Value.cells]) (by decide) rfl) ?_
  rintro _ I9_1 ah9_1 ⟨b9_1, rfl, rfl, rfl, hb9_1, hw9_1⟩
  refine WL_op rfl (OE_convLL und_sl_uint8 und_uint8 rfl rfl (AH.set_same _ _ _) rfl) ?_
  rintro _ I9_2 ah9_2 ⟨rfl, hIc9_1, hvc9_1, rfl⟩
  rw [AH.del_set, AH.del_none _ hb9_1]
  refine WL_op rfl (OE_call (l := [_, _]) E_journal_Journal_Keep rfl rfl (l_keep (bs := [98, 97, 115, 101]) (hj8.mono hIc9_1) hvc9_1 (by simp) (by simp [frSz]) (by show s4.turn + 1 < 100000; omega))) ?_
  rintro _ I9_3 ah9_3 ⟨_, rfl, hI9, _, rfl, ρ9, he9, hj9⟩
  refine WL_val rfl (PE_assign rfl) ?_
  refine WL_nil ?_
  refine QA_seq ?_
  refine CW_seq ?_
  refine CW_region (l := [_, _, _, _]) ?_
  refine WL_val rfl (PE_move rfl) ?_
  refine WL_op rfl (OE_call (l := [_]) E_journal_Journal_All rfl rfl (l_all hj9 (by simp [keptJ]))) ?_
  rintro _ I10_1 ah10_1 ⟨vA1, rfl, hIA1, rfl, hrA1⟩
  obtain ⟨vsA1, hslA1, _⟩ := hrA1
  obtain ⟨aA1, cA1, rfl, _⟩ := hslA1.form
  refine WL_val rfl (PE_len und_sl_sl_uint8 rfl) ?_
  refine WL_val rfl (PE_assign rfl) ?_
  refine WL_nil ?_
  refine QA_seq ?_
  refine CW_seq ?_
  refine CW_region (l := [_, _, _, _, _]) ?_
  refine WL_val rfl (PE_move rfl) ?_
  refine WL_op rfl (OE_lit (l := [_]) (vs := [_]) und_sl_uint8 te_uint8 rfl rfl rfl (by simp [Value.cells]) (by decide) rfl) ?_
  rintro _ I11_1 ah11_1 ⟨b11_1, rfl, rfl, rfl, hb11_1, hw11_1⟩
  refine WL_op rfl (OE_convLL und_sl_uint8 und_uint8 rfl rfl (AH.set_same _ _ _) rfl) ?_
  rintro _ I11_2 ah11_2 ⟨rfl, hIc11_1, hvc11_1, rfl⟩
  rw [AH.del_set, AH.del_none _ hb11_1]
  refine WL_op rfl (OE_litI (l := [_]) (vs := [_]) und_sl_sl_uint8 te_sl_uint8 rfl rfl rfl (by simp [Value.cells]) (by decide) rfl rfl) ?_
  rintro _ I11_3 ah11_3 ⟨v11_3, rfl, hI11_3, rfl, hv11_3, hn11_3⟩
  refine WL_op rfl (OE_call (l := [_, _]) E_journal_Journal_Add rfl rfl (l_add (ls := [[113]]) ((hj9.mono hIA1).mono (hIc11_1.trans hI11_3)) (Rows.one (BySl.mono hvc11_1 hI11_3) hv11_3) (by simp) (by simp [frSz]) (by simp [keptJ]))) ?_
  rintro _ I11_4 ah11_4 ⟨_, rfl, hI11, _, rfl, ρ11, he11, hj11⟩
  refine WL_nil ?_
  refine QA_seq ?_
  refine CW_seq ?_
  refine CW_region (l := [_, _]) ?_
  refine WL_val rfl (PE_move rfl) ?_
  refine WL_op rfl (OE_call (l := [_]) E_journal_Journal_Sync rfl rfl (l_sync hj11)) ?_
  rintro _ I12_1 ah12_1 ⟨_, rfl, hI12, _, rfl, ρ12, he12, hj12⟩
  generalize hs12 : addJ (keptJ (addJ s4 [[112]]) [98, 97, 115, 101]) [[113]] = s12 at *
  have hrec : s12.recs = [[113]] := by rw [← hs12]; simp [addJ, keptJ]
  have hpart : s12.part = 0 := by rw [← hs12]; rfl
  have hbase : s12.base = [98, 97, 115, 101] := by rw [← hs12]; rfl
  have hliv : s12.lives = 1 := by obtain ⟨_, _, _, _, h, _⟩ := hj12; exact h
  refine WL_nil ?_
  refine QA_seq ?_
  refine CW_seq ?_
  refine CW_region (l := [_, _]) ?_
  refine WL_val rfl (PE_move rfl) ?_
  refine WL_op rfl (OE_call (l := [_, _, _]) E_disk_Disk_Crash rfl rfl (l_crash hj12 (by omega) 0 (by omega) 0 (by omega))) ?_
  rintro _ I13_1 ah13_1 ⟨_, rfl, hI13, _, ρ13, m, n, he13, hd13, hm1, hm2, hn13, hk0, hj13⟩
  obtain rfl : m = 1 := by rw [hk0 rfl]; simp [hrec]
  rw [hrec, show ([[113]] : List (List UInt8)).take 1 = [[113]] from rfl] at hd13
  refine WL_nil ?_
  refine QA_seq ?_
  refine CW_seq ?_
  refine CW_region (l := [_, _, _, _]) ?_
  refine WL_val rfl (PE_move rfl) ?_
  refine WL_op rfl (OE_litI (l := [_]) (vs := [_]) und_sl_sl_uint8 te_sl_uint8 rfl rfl rfl (by simp [Value.cells]) (by decide) rfl rfl) ?_
  rintro _ I14_1 ah14_1 ⟨v14_1, rfl, hI14_1, rfl, hv14_1, hn14_1⟩
  refine WL_op rfl (OE_call (l := [_, _]) E_journal_Journal_Add rfl rfl (l_addOff (hj13.mono hI14_1) (hd13.mono hI14_1) _ (by simp))) ?_
  rintro _ I14_2 ah14_2 ⟨_, rfl, _, rfl, rfl, rfl⟩
  refine WL_val rfl (PE_assign rfl) ?_
  refine WL_nil ?_
  refine QA_seq ?_
  refine CW_seq ?_
  refine CW_region (l := [_, _, _, _, _, _, _]) ?_
  refine WL_val rfl (PE_move rfl) ?_
  refine WL_op rfl (OE_call (l := [_]) E_journal_Open rfl rfl (l_openOff (hd13.mono hI14_1))) ?_
  rintro _ I15_1 ah15_1 ⟨_, rfl, _, rfl, rfl, rfl⟩
  refine WL_val rfl (PE_move rfl) ?_
  refine WL_val rfl (PE_extract rfl rfl) ?_
  refine WL_val rfl (PE_extract rfl rfl) ?_
  refine WL_val rfl (PE_assign rfl) ?_
  refine WL_val rfl (PE_assign rfl) ?_
  refine WL_nil ?_
  refine QA_seq ?_
  refine CW_seq ?_
  refine CW_region (l := [_, _]) ?_
  refine WL_val rfl (PE_move rfl) ?_
  refine WL_op rfl (OE_call (l := [_]) E_disk_Disk_On rfl rfl (l_on (hd13.mono hI14_1) (by omega))) ?_
  rintro _ I16_1 ah16_1 ⟨_, rfl, hI16, _, he16, hd16⟩
  have hj16 := ((hj13.mono hI14_1).mono hI16).dsk he16
  refine WL_nil ?_
  refine QA_seq ?_
  refine CW_seq ?_
  refine CW_region (l := [_, _, _, _, _, _]) ?_
  refine WL_val rfl (PE_move rfl) ?_
  refine WL_op rfl (OE_call (l := [_]) E_journal_Journal_Sync rfl rfl (l_syncOff hj16 hd16 (by simp [hliv]))) ?_
  rintro _ I17_1 ah17_1 ⟨_, rfl, _, rfl, rfl, rfl⟩
  refine WL_val rfl (PE_move rfl) ?_
  refine WL_op rfl (OE_call (l := [_]) E_journal_Journal_Done rfl rfl (l_doneOff hj16 hd16 (by simp [hliv]))) ?_
  rintro _ I17_3 ah17_3 ⟨_, rfl, _, rfl, rfl, rfl⟩
  refine WL_val rfl (PE_assign rfl) ?_
  refine WL_val rfl (PE_assign rfl) ?_
  refine WL_nil ?_
  refine QA_seq ?_
  refine CW_seq ?_
  refine CW_region (l := [_, _, _, _, _, _, _]) ?_
  refine WL_val rfl (PE_move rfl) ?_
  refine WL_op rfl (OE_call (l := [_]) E_journal_Open rfl rfl (l_open hd16)) ?_
  rintro _ I18_1 ah18_1 ⟨_, rfl, hI18, _, o, ρ18, s18, rfl, he18, hj18, hr18, hb18, ht18, hp18⟩
  rw [hbase] at hb18
  refine WL_val rfl (PE_move rfl) ?_
  refine WL_val rfl (PE_extract rfl rfl) ?_
  refine WL_val rfl (PE_extract rfl rfl) ?_
  refine WL_val rfl (PE_assign rfl) ?_
  refine WL_val rfl (PE_assign rfl) ?_
  refine WL_nil ?_
  refine QA_seq ?_
  refine CW_seq ?_
  refine CW_seq ?_
  refine CW_region (l := [_, _]) ?_
  refine WL_val rfl (PE_move rfl) ?_
  refine WL_val rfl (PE_eqpn und_p_journal_Journal rfl rfl rfl) ?_
  refine WL_nil ?_
  refine QA_seq ?_
  refine CW_false rfl ?_
  refine CW_skip ?_
  refine QA_seq ?_
  refine CW_seq ?_
  refine CW_region (l := [_, _, _, _, _, _, _, _, _, _, _, _, _, _, _, _, _, _, _, _, _, _, _, _, _, _, _, _, _, _, _, _, _, _, _, _, _, _, _, _, _, _, _, _, _, _, _, _, _, _, _, _, _, _, _, _, _]) ?_
  refine WL_val rfl (PE_move rfl) ?_
  refine WL_val rfl (PE_eqi rfl rfl rfl) ?_
  refine WL_val rfl (PE_move rfl) ?_
  refine WL_gon rfl rfl rfl ?_
  refine WL_val rfl (PE_move rfl) ?_
  refine WL_gon rfl rfl rfl ?_
  refine WL_val rfl (PE_eqi rfl rfl rfl) ?_
  refine WL_val rfl (PE_pick rfl (fun _ => rfl) (fun _ => rfl)) ?_
  refine WL_val rfl (PE_move rfl) ?_
  refine WL_gon rfl rfl rfl ?_
  refine WL_val rfl (PE_move rfl) ?_
  refine WL_gon rfl rfl rfl ?_
  refine WL_val rfl (PE_eqi rfl rfl rfl) ?_
  refine WL_val rfl (PE_pick rfl (fun _ => rfl) (fun _ => rfl)) ?_
  refine WL_val rfl (PE_move rfl) ?_
  refine WL_gon rfl rfl rfl ?_
  refine WL_val rfl (PE_move rfl) ?_
  refine WL_gon rfl rfl rfl ?_
  refine WL_val rfl (PE_eqi rfl rfl rfl) ?_
  refine WL_val rfl (PE_pick rfl (fun _ => rfl) (fun _ => rfl)) ?_
  refine WL_val rfl (PE_move rfl) ?_
  refine WL_gon rfl rfl rfl ?_
  refine WL_val rfl (PE_move rfl) ?_
  refine WL_gon rfl rfl rfl ?_
  refine WL_val rfl (PE_eqi rfl rfl rfl) ?_
  refine WL_val rfl (PE_pick rfl (fun _ => rfl) (fun _ => rfl)) ?_
  refine WL_val rfl (PE_move rfl) ?_
  refine WL_gon rfl rfl rfl ?_
  refine WL_val rfl (PE_move rfl) ?_
  refine WL_gon rfl rfl rfl ?_
  refine WL_val rfl (PE_eqi rfl rfl rfl) ?_
  refine WL_val rfl (PE_pick rfl (fun _ => rfl) (fun _ => rfl)) ?_
  refine WL_val rfl (PE_move rfl) ?_
  refine WL_gon rfl rfl rfl ?_
  refine WL_val rfl (PE_move rfl) ?_
  refine WL_gon rfl rfl rfl ?_
  refine WL_val rfl (PE_eqi rfl rfl rfl) ?_
  refine WL_val rfl (PE_pick rfl (fun _ => rfl) (fun _ => rfl)) ?_
  refine WL_val rfl (PE_move rfl) ?_
  refine WL_gon rfl rfl rfl ?_
  refine WL_val rfl (PE_move rfl) ?_
  refine WL_gon rfl rfl rfl ?_
  refine WL_val rfl (PE_eqi rfl rfl rfl) ?_
  refine WL_val rfl (PE_pick rfl (fun _ => rfl) (fun _ => rfl)) ?_
  refine WL_val rfl (PE_move rfl) ?_
  refine WL_gon rfl rfl rfl ?_
  refine WL_val rfl (PE_move rfl) ?_
  refine WL_val rfl (PE_pick rfl (fun _ => rfl) (fun _ => rfl)) ?_
  refine WL_val rfl (PE_move rfl) ?_
  refine WL_gon rfl rfl rfl ?_
  refine WL_val rfl (PE_move rfl) ?_
  refine WL_gon rfl rfl rfl ?_
  refine WL_val rfl (PE_eqi rfl rfl rfl) ?_
  refine WL_val rfl (PE_pick rfl (fun _ => rfl) (fun _ => rfl)) ?_
  refine WL_val rfl (PE_move rfl) ?_
  refine WL_gon rfl rfl rfl ?_
  refine WL_val rfl (PE_move rfl) ?_
  refine WL_gon rfl rfl rfl ?_
  refine WL_op rfl (OE_call (l := [_]) E_journal_Journal_Base rfl rfl (l_base hj18)) ?_
  rintro _ I21_39 ah21_39 ⟨v39, rfl, hI39, rfl, hb39⟩
  rw [hb18] at hb39
  refine WL_gon rfl rfl rfl ?_
  refine WL_val rfl (PE_convBS (l := [98, 97, 115, 101]) und_sl_uint8 und_uint8 und_string rfl (hb39.src _)) ?_
  refine WL_gon rfl rfl rfl ?_
  refine WL_val rfl (PE_eqs (b := true) rfl rfl rfl) ?_
  refine WL_val rfl (PE_pick rfl (fun _ => rfl) (fun _ => rfl)) ?_
  refine WL_val rfl (PE_move rfl) ?_
  refine WL_gon rfl rfl rfl ?_
  refine WL_val rfl (PE_move rfl) ?_
  refine WL_gon rfl rfl rfl ?_
  refine WL_op rfl (OE_call (l := [_]) E_journal_Journal_All rfl rfl (l_all (hj18.mono hI39) (by rw [hr18]; simp))) ?_
  rintro _ I21_45 ah21_45 ⟨v45, rfl, hI45, rfl, hr45⟩
  rw [hr18] at hr45
  refine WL_gon rfl rfl rfl ?_
  refine WL_op rfl (OE_lit (l := [_]) (vs := [_]) und_sl_uint8 te_uint8 rfl rfl rfl (by simp [Value.cells]) (by decide) rfl) ?_
  rintro _ I21_46 ah21_46 ⟨b21_46, rfl, rfl, rfl, hb21_46, hw21_46⟩
  refine WL_gon rfl rfl rfl ?_
  refine WL_op rfl (OE_convLL und_sl_uint8 und_uint8 rfl rfl (AH.set_same _ _ _) rfl) ?_
  rintro _ I21_47 ah21_47 ⟨rfl, hIc21_46, hvc21_46, rfl⟩
  rw [AH.del_set, AH.del_none _ hb21_46]
  refine WL_gon rfl rfl rfl ?_
  refine WL_op rfl (OE_litI (l := [_]) (vs := [_]) und_sl_sl_uint8 te_sl_uint8 rfl rfl rfl (by simp [Value.cells]) (by decide) rfl rfl) ?_
  rintro _ I21_48 ah21_48 ⟨v21_48, rfl, hI21_48, rfl, hv21_48, hn21_48⟩
  refine WL_gon rfl rfl rfl ?_
  refine WL_op rfl (OE_call (l := [_, _]) E_bandboxlaw14_same rfl rfl (same_spec _ _ _ _ _ [[113]] [[113]] (hr45.mono (hIc21_46.trans hI21_48)) (Rows.one (BySl.mono hvc21_46 hI21_48) hv21_48) (by simp) (by simp))) ?_
  rintro _ I21_49 ah21_49 ⟨_, rfl, _, rfl, rfl, rfl⟩
  rw [decide_eq_true rfl]
  refine WL_val rfl (PE_pick rfl (fun _ => rfl) (fun _ => rfl)) ?_
  refine WL_val rfl (PE_move rfl) ?_
  refine WL_gon rfl rfl rfl ?_
  refine WL_val rfl (PE_move rfl) ?_
  refine WL_gon rfl rfl rfl ?_
  refine WL_op rfl (OE_call (l := [_]) E_journal_Journal_Done rfl rfl (l_done (hj18.mono ((hI39.trans hI45).trans (hIc21_46.trans hI21_48))))) ?_
  rintro _ I21_53 ah21_53 ⟨_, rfl, _, rfl, rfl, rfl⟩
  refine WL_gon rfl rfl rfl ?_
  refine WL_val rfl (PE_un rfl (rfl)) ?_
  refine WL_val rfl (PE_pick rfl (fun _ => rfl) (fun _ => rfl)) ?_
  refine WL_val rfl (PE_assign rfl) ?_
  refine WL_nil ?_
  refine QA_seq ?_
  refine CW_ret ?_
  refine QA_return (rs := [_]) rfl rfl (hI1.trans (hI3.trans (hI4.trans (hIc5_1.trans (hIf5_3.trans (hI5_4.trans (hI61.trans (hIf7_1.trans (hIc8_1.trans (hI8_3.trans (hI8.trans (hIc9_1.trans (hI9.trans (hIA1.trans (hIc11_1.trans (hI11_3.trans (hI11.trans (hI12.trans (hI13.trans (hI14_1.trans (hI16.trans (hI18.trans (hI39.trans (hI45.trans (hIc21_46.trans (hI21_48)))))))))))))))))))))))))) (ah) (out_sub (S := ofJ) ((he3.mono (fun _ h => h.elim)).trans (he4.trans (he8.trans (he9.trans (he11.trans (he12.trans ((he13.mono ofD_J).trans ((he16.mono ofD_J).trans he18)))))))) (by simp [ofJ])) ?_
  exact ⟨rfl, rfl⟩

end Go.Proofs.YthdpebagkfloaaaDoor

