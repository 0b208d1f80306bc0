/- law 14: JournalPlays, the walk. -/
import Derived.Test.YthdpebagkfloaaaDoorPAD
namespace Go.Proofs.YthdpebagkfloaaaDoor
open Go Go.RowKit SL
set_option linter.unusedVariables false
set_option linter.unusedSimpArgs false
set_option maxRecDepth 100000
namespace SL
theorem PE_slice3 {C : Cx} {env : Env} {I : IM} {ah : AH} {d ty : Nat} {ps : String} {af : Array Edge} {t e : TypeId} {x hi mx : Operand} {a : Option Addr} {n c sz h : Nat} (ht : C.P.underlying t = some (.slice e)) (hz : ∀ w, (sizeOf e).run C.P w = .ok sz w)
    (hx : opv env x = some (.slice a n c)) (hh : opv env hi = some (.int .i64 (h : Nat))) (hmx : opv env mx = some (.int .i64 (h : Nat))) (hc : h ≤ c) :
    PE C env I ah ⟨some d, .slice t x none (some hi) (some mx), ty, ps, af, none⟩ (.slice a h h) := fun ac w he _ => by
  have key : (Instr.sliceBounds true n c (none) (some (ac.eval hi)) (some (ac.eval mx))).run C.P w = .ok (0, h, h) w := by
    simp [Instr.sliceBounds, he.eval hh, he.eval hmx, Instr.sliceBound, asIntOf, hc]
  have hm : a.map (fun a => a.add 0) = a := by cases a <;> simp [add_zero]
  simp [execOp, he.eval hx, Instr.sliceAt, Instr.slice, run_underlying ht, hz, key, hm]
end SL
theorem rows_app {I : IM} {vs us : List Value} {a b : List (List UInt8)} (hl : vs.length = a.length) (ha : ∀ (i : Nat) (l : List UInt8), a[i]? = some l → ∃ u, vs[i]? = some u ∧ BySl I u l) (hb : ∀ (i : Nat) (l : List UInt8), b[i]? = some l → ∃ u, us[i]? = some u ∧ BySl I u l) :
    ∀ (i : Nat) (l : List UInt8), (a ++ b)[i]? = some l → ∃ u, (vs ++ us)[i]? = some u ∧ BySl I u l := fun i l e => by
  rcases Nat.lt_or_ge i a.length with h | h
  · rw [List.getElem?_append_left h] at e
    obtain ⟨u, h1, h2⟩ := ha i l e
    exact ⟨u, by rw [List.getElem?_append_left (by omega)]; exact h1, h2⟩
  · rw [List.getElem?_append_right h] at e
    obtain ⟨u, h1, h2⟩ := hb _ l e
    exact ⟨u, by rw [List.getElem?_append_right (by omega), hl]; exact h1, h2⟩
theorem ByRows.take3 {I : IM} {a : Option Addr} {n c : Nat} {ls : List (List UInt8)} (h : ByRows I (.slice a n c) ls) {j : Nat} (hj : j ≤ ls.length) : ByRows I (.slice a j j) (ls.take j) := by
  obtain ⟨vs, h1, h2⟩ := ByRows.take h hj
  refine ⟨vs, ?_, h2⟩
  have hlj : (ls.take j).length = j := by simp; omega
  rw [hlj] at h1 ⊢
  rcases h1 with ⟨⟨_, e⟩, e1, e2⟩ | ⟨b, o, c', e, k1, k2, k3⟩
  · subst e1; cases e; exact .inl ⟨⟨_, rfl⟩, rfl, e2⟩
  · cases e
    exact .inr ⟨b, o, j, rfl, Nat.le_refl _, k2, k3⟩
structure ActR where
  op : Int
  n : Int
  mask : Nat
  b : List UInt8
  l : List (List UInt8)
def ActOk (a : ActR) : Prop := a.mask < 18446744073709551616 ∧ -9223372036854775808 ≤ a.n ∧ a.n < 9223372036854775808
/-- A slice of acts. -/
def Acts (I : IM) (v : Value) (acts : List ActR) : Prop :=
  (∃ x c, v = .slice x acts.length c) ∧ ∀ (i : Nat) a, acts[i]? = some a → ∃ b o c u w, v = .slice (some ⟨b, o, none⟩) acts.length c ∧ (∀ (k : Nat) z, [Value.int .i64 a.op, .int .i64 a.n, .int .u64 (a.mask : Int), u, w][k]? = some z → I b (o + i * 5 + k) = some z) ∧ BySl I u a.b ∧ ByRows I w a.l ∧ ActOk a
theorem Acts.mono {I J : IM} {v : Value} {acts : List ActR} (h : Acts I v acts) (hI : IM.le I J) : Acts J v acts :=
  ⟨h.1, fun i a e => by
    obtain ⟨b, o, c, u, w, h1, h2, h3, h4, h5⟩ := h.2 i a e
    exact ⟨b, o, c, u, w, h1, fun k z e => hI _ _ _ (h2 k z e), h3.mono hI, h4.mono hI, h5⟩⟩

set_option maxHeartbeats 4000000 in
theorem plays_walk (w0 : World) (I : IM) (ah : AH) (v : Value) (acts : List ActR) (hv : Acts I v acts) :
    SC P w0 n_bandboxlaw14_JournalPlays [v] I ah (fun v I' ah' => ah = ah' ∧ v = .bool true) := by
  obtain ⟨xa, xc, hxv⟩ := hv.1
  refine SC_enter fn_bandboxlaw14_JournalPlays rfl rfl (Nat.le_of_ble_eq_true rfl) ?_
  refine CW_seq ?_
  refine CW_region (l := [_]) ?_
  refine WL_val rfl (PE_assign rfl) ?_
  refine WL_nil ?_
  refine QA_seq ?_
  refine CW_seq ?_
  refine CW_seq ?_
  refine CW_region (l := [_, _]) ?_
  refine WL_op rfl (OE_call (l := []) E_bandboxlaw14_awake rfl rfl (awake_spec _ _ _)) ?_
  rintro _ I1_0 ah1_0 ⟨_, rfl, hI1, rfl, rfl⟩
  replace hv := hv.mono hI1
  refine WL_val rfl (PE_un rfl (rfl)) ?_
  refine WL_nil ?_
  refine QA_seq ?_
  refine CW_false rfl ?_
  refine CW_skip ?_
  refine QA_seq ?_
  refine CW_seq ?_
  refine CW_seq ?_
  rcases Nat.lt_or_ge 40 acts.length with h40 | h40
  · skip
    refine CW_region (l := [_, _, _]) ?_
    refine WL_val rfl (PE_move rfl) ?_
    refine WL_val rfl (PE_len und_sl_bandboxlaw14_Act (by rw [hxv]; rfl)) ?_
    refine WL_val rfl (PE_gtr (b := true) rfl rfl (by simp; omega)) ?_
    refine WL_nil ?_
    refine QA_seq ?_
    refine CW_true rfl ?_
    refine CW_seq ?_
    refine CW_region (l := [_]) ?_
    refine WL_val rfl (PE_assign rfl) ?_
    refine WL_nil ?_
    refine QA_seq ?_
    refine CW_ret ?_
    refine QA_then_ret ?_
    refine QA_return (rs := [_]) rfl rfl (hI1) (_) (fun _ _ h => h) ?_
    exact ⟨rfl, rfl⟩
  · skip
    refine CW_region (l := [_, _, _]) ?_
    refine WL_val rfl (PE_move rfl) ?_
    refine WL_val rfl (PE_len und_sl_bandboxlaw14_Act (by rw [hxv]; rfl)) ?_
    refine WL_val rfl (PE_gtr (b := false) rfl rfl (by simp; omega)) ?_
    refine WL_nil ?_
    refine QA_seq ?_
    refine CW_false rfl ?_
    refine CW_skip ?_
    refine QA_seq ?_
    refine CW_seq ?_
    refine CW_region (l := [_, _, _, _, _, _]) ?_
    refine WL_op rfl (OE_call (l := [_]) E_disk_New rfl rfl (l_new (ρ := outR) 262144 (by omega) (by omega))) ?_
    rintro _ I5_0 ah5_0 ⟨_, rfl, hI5, _, d, ρ5, rfl, he5, hd5⟩
    refine WL_val rfl (PE_move rfl) ?_
    refine WL_val rfl (PE_extract rfl rfl) ?_
    refine WL_val rfl (PE_extract rfl rfl) ?_
    refine WL_val rfl (PE_assign rfl) ?_
    refine WL_val rfl (PE_assign rfl) ?_
    refine WL_nil ?_
    refine QA_seq ?_
    refine CW_seq ?_
    refine CW_region (l := [_, _, _, _, _, _, _]) ?_
    refine WL_val rfl (PE_move rfl) ?_
    refine WL_op rfl (OE_call (l := [_]) E_journal_Open rfl rfl (l_open hd5)) ?_
    rintro _ I6_1 ah6_1 ⟨_, rfl, hI6, _, j, ρ6, s6, rfl, he6, hj6, hr6, hb6, ht6, hp6⟩
    refine WL_val rfl (PE_move rfl) ?_
    refine WL_val rfl (PE_extract rfl rfl) ?_
    refine WL_val rfl (PE_extract rfl rfl) ?_
    refine WL_val rfl (PE_assign rfl) ?_
    refine WL_val rfl (PE_assign rfl) ?_
    refine WL_nil ?_
    refine QA_seq ?_
    refine CW_seq ?_
    refine CW_seq ?_
    refine CW_region (l := [_, _, _, _, _, _]) ?_
    refine WL_val rfl (PE_move rfl) ?_
    refine WL_val rfl (PE_nei rfl rfl rfl) ?_
    refine WL_val rfl (PE_move rfl) ?_
    refine WL_gon rfl rfl rfl ?_
    refine WL_val rfl (PE_move rfl) ?_
    refine WL_gon rfl rfl rfl ?_
    refine WL_val rfl (PE_eqpn und_p_journal_Journal rfl rfl rfl) ?_
    refine WL_val rfl (PE_pick rfl (fun _ => rfl) (fun _ => rfl)) ?_
    refine WL_nil ?_
    refine QA_seq ?_
    refine CW_false rfl ?_
    refine CW_skip ?_
    refine QA_seq ?_
    refine CW_seq ?_
    refine CW_region (l := [_]) ?_
    refine WL_val rfl (PE_assign rfl) ?_
    refine WL_nil ?_
    refine QA_seq ?_
    refine CW_seq ?_
    refine CW_region (l := [_]) ?_
    refine WL_val rfl (PE_assign rfl) ?_
    refine WL_nil ?_
    refine QA_seq ?_
    refine CW_seq ?_
    refine CW_region (l := [_]) ?_
    refine WL_val rfl (PE_assign rfl) ?_
    refine WL_nil ?_
    refine QA_seq ?_
    refine CW_seq ?_
    refine CW_seq ?_
    refine CW_region (l := [_]) ?_
    refine WL_val rfl (PE_assign rfl) ?_
    refine WL_nil ?_
    refine QA_seq ?_
    refine CW_block ?_
    refine CW_loop (fun m0 e I' A' => ∃ ρ j s syn sz lives av i, e = [(0, v), (3, .pointer (some ⟨d, 0, none⟩)), (5, .pointer (some ⟨j, 0, none⟩)), (7, .string ⟨s.base.toArray⟩), (8, av), (9, .int .i64 (syn : Nat)), (10, .int .i64 (i : Nat))] ∧ IM.le I6_1 I' ∧ Evo ofJ outR ah ρ A' ∧ LJ ρ I' A' j d 262144 lives s syn sz ∧ ByRows I' av s.recs ∧ m0 = acts.length - i ∧ i ≤ acts.length ∧ s.turn ≤ i ∧ s.part ≤ i ∧ lives ≤ i + 1 ∧ s.recs.length ≤ 6 * i ∧ sz ≤ 1700 * i ∧ (∀ x ∈ s.recs, x.length ≤ 200)) (acts.length) (e0 := [(0, v), (3, .pointer (some ⟨d, 0, none⟩)), (5, .pointer (some ⟨j, 0, none⟩)), (7, .string ⟨#[]⟩), (8, .slice none 0 0), (9, .int .i64 ((0 : Nat) : Int)), (10, .int .i64 ((0 : Nat) : Int))]) (⟨ρ6, j, s6, 0, 0, 1, .slice none 0 0, 0, by rw [hb6], IM.le.refl _, (he5.mono (fun _ h => h.elim)).trans he6, hj6, by rw [hr6]; exact ByRows.nil _, rfl, Nat.zero_le _, by omega, by omega, by omega, by rw [hr6]; simp, by omega, by rw [hr6]; simp⟩) (by repeat (first | exact .nil | refine .cons rfl ?_)) ?_
    rintro m0 e I2 A2 ⟨ρ, j, s, syn, sz, lives, av, i, rfl, hI2, hev, hj, hav, rfl, hi, hbt, hbp, hbl, hbr, hbz, hbs⟩
    have hv2 := hv.mono ((hI5.trans hI6).trans hI2)
    refine CW_seq ?_
    refine CW_seq ?_
    refine CW_region (l := [_, _, _, _]) ?_
    refine WL_val rfl (PE_move rfl) ?_
    refine WL_val rfl (PE_move rfl) ?_
    refine WL_val rfl (PE_len und_sl_bandboxlaw14_Act (by rw [hxv]; rfl)) ?_
    refine WL_val rfl (PE_lss (b := decide (i < acts.length)) rfl rfl (by simp)) ?_
    refine WL_nil ?_
    refine QA_seq ?_
    refine CW_cond rfl (fun c5 => ?_) (fun c5 => ?_)
    · have hia : i < acts.length := by simpa using c5
      obtain ⟨vb, vo, vc, bvv, wv, hvv, hcells, hbv, hwr, hmask, hn1, hn2⟩ := hv2.2 i acts[i] (by simp)
      obtain ⟨bba, bbc, rfl, _⟩ := hbv.form
      obtain ⟨wvs, hws, hwrr⟩ := hwr
      obtain ⟨wa, wc, hwv, _⟩ := hws.form
      have hwr : ByRows I2 wv acts[i].l := ⟨wvs, hws, hwrr⟩
      generalize acts[i] = x at *
      refine CW_skip ?_
      refine QA_seq ?_
      refine CW_seq ?_
      refine CW_block ?_
      refine CW_seq ?_
      refine CW_region (l := [_, _, _, _, _, _]) ?_
      refine WL_val rfl (PE_move rfl) ?_
      refine WL_val rfl (PE_move rfl) ?_
      refine WL_val rfl (PE_indexAddr und_sl_bandboxlaw14_Act te_bandboxlaw14_Act.size (by rw [← hvv]; rfl) rfl rfl hia) ?_
      refine WL_val rfl (PE_loadA (vs := [Value.int .i64 x.op, .int .i64 x.n, .int .u64 (x.mask : Int), .slice bba x.b.length bbc, wv]) ta_bandboxlaw14_Act rfl rfl (fun k z e => .imm (hcells k z e))) ?_
      refine WL_op rfl (OE_alloc rfl te_bandboxlaw14_Act.zero) ?_
      rintro _ I15_4 ah15_4 ⟨b15_4, rfl, rfl, rfl, hb15_4, hw15_4⟩
      refine WL_op rfl (OE_storeA (us := [Value.int .i64 x.op, .int .i64 x.n, .int .u64 (x.mask : Int), .slice bba x.b.length bbc, wv]) ta_bandboxlaw14_Act rfl rfl rfl (by rw [hwv]; simp [Value.oneCell']) (AH.set_same _ _ _) (by simp [Value.cells])) ?_
      rintro _ I15_5 ah15_5 ⟨rfl, rfl, rfl⟩
      rw [AH.set_set, splice_all _ _ (by simp [Value.cells])]
      refine WL_freeze (AH.set_same _ _ _) ?_
      rintro I15 hI15 hz15
      rw [AH.del_set, AH.del_none _ hb15_4]
      have g0 := hz15 0 _ rfl
      have g1 := hz15 1 _ rfl
      have g2 := hz15 2 _ rfl
      have g3 := hz15 3 _ rfl
      have g4 := hz15 4 _ rfl
      replace hj := hj.mono hI15
      replace hav := hav.mono hI15
      replace hbv := hbv.mono hI15
      replace hwr := hwr.mono hI15
      replace hws := hws.mono hI15
      replace hwrr := rows_mono hwrr hI15
      refine WL_nil ?_
      refine QA_seq ?_
      refine CW_seq ?_
      refine CW_seq ?_
      have h3c : 300 < x.b.length ∨ (¬ 300 < x.b.length ∧ 6 < x.l.length) ∨ (¬ 300 < x.b.length ∧ ¬ 6 < x.l.length) := by omega
      rcases h3c with k1 | ⟨k1, k2⟩ | ⟨k1, k2⟩
      · skip
        refine CW_region (l := [_, _, _, _, _, _, _, _, _, _]) ?_
        refine WL_val rfl (PE_fieldAddr fa_bandboxlaw14_Act_3 rfl) ?_
        refine WL_val rfl (PE_load tc_sl_uint8 rfl (.imm g3)) ?_
        refine WL_val rfl (PE_len und_sl_uint8 rfl) ?_
        refine WL_val rfl (PE_gtr (b := true) rfl rfl (by simp; omega)) ?_
        refine WL_val rfl (PE_move rfl) ?_
        refine WL_gskip rfl rfl rfl (fun h => by cases h) rfl ?_
        refine WL_gskip rfl rfl rfl (fun h => by cases h) rfl ?_
        refine WL_gskip rfl rfl rfl (fun h => by cases h) rfl ?_
        refine WL_gskip rfl rfl rfl (fun h => by cases h) rfl ?_
        refine WL_val rfl (PE_pick rfl (fun _ => rfl) (fun _ => rfl)) ?_
        refine WL_nil ?_
        refine QA_seq ?_
        refine CW_true rfl ?_
        refine CW_seq ?_
        refine CW_region (l := [_]) ?_
        refine WL_val rfl (PE_assign rfl) ?_
        refine WL_nil ?_
        refine QA_seq ?_
        refine CW_ret ?_
        refine QA_then_ret ?_
        refine QA_block_ret ?_
        refine QA_then_ret ?_
        refine QA_then_ret ?_
        refine QA_block_ret ?_
        refine QA_then_ret ?_
        refine QA_return (rs := [_]) rfl rfl (hI1.trans ((hI5.trans hI6).trans (hI2.trans hI15))) (ah) (out_sub hev (by simp [ofJ])) ?_
        exact ⟨rfl, rfl⟩
      · skip
        refine CW_region (l := [_, _, _, _, _, _, _, _, _, _]) ?_
        refine WL_val rfl (PE_fieldAddr fa_bandboxlaw14_Act_3 rfl) ?_
        refine WL_val rfl (PE_load tc_sl_uint8 rfl (.imm g3)) ?_
        refine WL_val rfl (PE_len und_sl_uint8 rfl) ?_
        refine WL_val rfl (PE_gtr (b := false) rfl rfl (by simp; omega)) ?_
        refine WL_val rfl (PE_move rfl) ?_
        refine WL_gon rfl rfl rfl ?_
        refine WL_val rfl (PE_fieldAddr fa_bandboxlaw14_Act_4 rfl) ?_
        refine WL_gon rfl rfl rfl ?_
        refine WL_val rfl (PE_load tc_sl_sl_uint8 rfl (.imm g4)) ?_
        refine WL_gon rfl rfl rfl ?_
        refine WL_val rfl (PE_len und_sl_sl_uint8 (by rw [← hwv]; rfl)) ?_
        refine WL_gon rfl rfl rfl ?_
        refine WL_val rfl (PE_gtr (b := true) rfl rfl (by simp; omega)) ?_
        refine WL_val rfl (PE_pick rfl (fun _ => rfl) (fun _ => rfl)) ?_
        refine WL_nil ?_
        refine QA_seq ?_
        refine CW_true rfl ?_
        refine CW_seq ?_
        refine CW_region (l := [_]) ?_
        refine WL_val rfl (PE_assign rfl) ?_
        refine WL_nil ?_
        refine QA_seq ?_
        refine CW_ret ?_
        refine QA_then_ret ?_
        refine QA_block_ret ?_
        refine QA_then_ret ?_
        refine QA_then_ret ?_
        refine QA_block_ret ?_
        refine QA_then_ret ?_
        refine QA_return (rs := [_]) rfl rfl (hI1.trans ((hI5.trans hI6).trans (hI2.trans hI15))) (ah) (out_sub hev (by simp [ofJ])) ?_
        exact ⟨rfl, rfl⟩
      · skip
        refine CW_region (l := [_, _, _, _, _, _, _, _, _, _]) ?_
        refine WL_val rfl (PE_fieldAddr fa_bandboxlaw14_Act_3 rfl) ?_
        refine WL_val rfl (PE_load tc_sl_uint8 rfl (.imm g3)) ?_
        refine WL_val rfl (PE_len und_sl_uint8 rfl) ?_
        refine WL_val rfl (PE_gtr (b := false) rfl rfl (by simp; omega)) ?_
        refine WL_val rfl (PE_move rfl) ?_
        refine WL_gon rfl rfl rfl ?_
        refine WL_val rfl (PE_fieldAddr fa_bandboxlaw14_Act_4 rfl) ?_
        refine WL_gon rfl rfl rfl ?_
        refine WL_val rfl (PE_load tc_sl_sl_uint8 rfl (.imm g4)) ?_
        refine WL_gon rfl rfl rfl ?_
        refine WL_val rfl (PE_len und_sl_sl_uint8 (by rw [← hwv]; rfl)) ?_
        refine WL_gon rfl rfl rfl ?_
        refine WL_val rfl (PE_gtr (b := false) rfl rfl (by simp; omega)) ?_
        refine WL_val rfl (PE_pick rfl (fun _ => rfl) (fun _ => rfl)) ?_
        refine WL_nil ?_
        refine QA_seq ?_
        refine CW_false rfl ?_
        refine CW_skip ?_
        refine QA_seq ?_
        refine CW_seq ?_
        refine CW_seq ?_
        refine CW_region (l := [_]) ?_
        refine WL_val rfl (PE_assign rfl) ?_
        refine WL_nil ?_
        refine QA_seq ?_
        refine CW_block ?_
        refine CW_loop (fun m0 e I' A' => ∃ k, e = [(0, v), (3, .pointer (some ⟨d, 0, none⟩)), (5, .pointer (some ⟨j, 0, none⟩)), (7, .string ⟨s.base.toArray⟩), (8, av), (9, .int .i64 (syn : Nat)), (10, .int .i64 (i : Nat)), (11, .pointer (some ⟨b15_4, 0, none⟩)), (12, .int .i64 (k : Nat))] ∧ I15 = I' ∧ A2 = A' ∧ m0 = x.l.length - k ∧ k ≤ x.l.length ∧ (∀ (i : Nat) y, i < k → x.l[i]? = some y → y.length ≤ 200)) (x.l.length) (e0 := [(0, v), (3, .pointer (some ⟨d, 0, none⟩)), (5, .pointer (some ⟨j, 0, none⟩)), (7, .string ⟨s.base.toArray⟩), (8, av), (9, .int .i64 (syn : Nat)), (10, .int .i64 (i : Nat)), (11, .pointer (some ⟨b15_4, 0, none⟩)), (12, .int .i64 ((0 : Nat) : Int))]) (⟨0, rfl, rfl, rfl, rfl, Nat.zero_le _, fun i y h => by omega⟩) (by repeat (first | exact .nil | refine .cons rfl ?_)) ?_
        rintro m0 e I15 A2 ⟨k, rfl, rfl, rfl, rfl, hk, hall⟩
        refine CW_seq ?_
        refine CW_seq ?_
        refine CW_region (l := [_, _, _, _, _]) ?_
        refine WL_val rfl (PE_move rfl) ?_
        refine WL_val rfl (PE_fieldAddr fa_bandboxlaw14_Act_4 rfl) ?_
        refine WL_val rfl (PE_load tc_sl_sl_uint8 rfl (.imm g4)) ?_
        refine WL_val rfl (PE_len und_sl_sl_uint8 (by rw [← hwv]; rfl)) ?_
        refine WL_val rfl (PE_lss (b := decide (k < x.l.length)) rfl rfl (by simp)) ?_
        refine WL_nil ?_
        refine QA_seq ?_
        refine CW_cond rfl (fun c9 => ?_) (fun c9 => ?_)
        · have hka : k < x.l.length := by simpa using c9
          obtain ⟨b1, o1, cc1, hvb, _, hcv⟩ := SlI.at hws hka
          obtain ⟨u, hu, hul⟩ := hwrr k x.l[k] (by simp)
          obtain ⟨ua, uc, rfl, _⟩ := hul.form
          refine CW_skip ?_
          refine QA_seq ?_
          refine CW_seq ?_
          refine CW_block ?_
          refine CW_seq ?_
          refine CW_region (l := [_, _, _, _, _, _, _]) ?_
          refine WL_val rfl (PE_fieldAddr fa_bandboxlaw14_Act_4 rfl) ?_
          refine WL_val rfl (PE_load tc_sl_sl_uint8 rfl (.imm g4)) ?_
          refine WL_val rfl (PE_move rfl) ?_
          refine WL_val rfl (PE_index1 und_sl_sl_uint8 te_sl_uint8.size (by rw [← hvb]; rfl) rfl rfl hka) ?_
          refine WL_val rfl (PE_load tc_sl_uint8 rfl (.imm (hcv k _ hu))) ?_
          refine WL_val rfl (PE_len und_sl_uint8 rfl) ?_
          refine WL_val rfl (PE_gtr rfl rfl rfl) ?_
          refine WL_nil ?_
          refine QA_seq ?_
          refine CW_cond rfl (fun c10 => ?_) (fun c10 => ?_)
          · skip
            refine CW_seq ?_
            refine CW_region (l := [_]) ?_
            refine WL_val rfl (PE_assign rfl) ?_
            refine WL_nil ?_
            refine QA_seq ?_
            refine CW_ret ?_
            refine QA_block_ret ?_
            refine QA_then_ret ?_
            refine QA_then_ret ?_
            refine QA_block_ret ?_
            refine QA_then_ret ?_
            refine QA_block_ret ?_
            refine QA_then_ret ?_
            refine QA_then_ret ?_
            refine QA_block_ret ?_
            refine QA_then_ret ?_
            refine QA_return (rs := [_]) rfl rfl (hI1.trans ((hI5.trans hI6).trans (hI2.trans hI15))) (ah) (out_sub hev (by simp [ofJ])) ?_
            exact ⟨rfl, rfl⟩
          · skip
            refine CW_skip ?_
            refine QA_block_normal ?_
            refine QA_seq ?_
            refine CW_region (l := [_, _, _]) ?_
            refine WL_val rfl (PE_move rfl) ?_
            refine WL_val rfl (PE_add (r := ((k + 1 : Nat) : Int)) rfl rfl (w64e (by push_cast; rfl) (by omega) (by omega))) ?_
            refine WL_val rfl (PE_assign rfl) ?_
            refine WL_nil ?_
            exact QA_round (x.l.length - (k + 1)) _ (by omega) ⟨k + 1, rfl, rfl, rfl, rfl, hka, fun i y hi e => by
              rcases Nat.lt_or_ge i k with h | h
              · exact hall i y h e
              · obtain rfl : i = k := by omega
                have h0 : ((x.l[i].length : Nat) : Int) ≤ 200 := (by simpa using c10)
                rw [List.getElem?_eq_getElem hka] at e; cases e; omega⟩ (by repeat (first | exact .nil | refine .cons rfl ?_))
        · have hke : k = x.l.length := by
            have h0 : ¬ k < x.l.length := (by simpa using c9)
            omega
          have hl200 : ∀ y ∈ x.l, y.length ≤ 200 := fun y hy => by
            obtain ⟨i, hi, e⟩ := List.mem_iff_getElem.1 hy
            exact hall i y (by omega) (by rw [← e]; exact List.getElem?_eq_getElem hi)
          clear hall
          have hfl := frSz_bound 200 x.l hl200
          refine CW_exit ?_
          refine QA_then_exit ?_
          refine QA_then_exit ?_
          refine QA_block_here ?_
          refine QA_seq ?_
          refine CW_join (fun e I' A' => ∃ ρ2 j2 s2 syn2 sz2 lives2 av2, e = [(0, v), (3, .pointer (some ⟨d, 0, none⟩)), (5, .pointer (some ⟨j2, 0, none⟩)), (7, .string ⟨s2.base.toArray⟩), (8, av2), (9, .int .i64 (syn2 : Nat)), (10, .int .i64 (i : Nat))] ∧ IM.le I15 I' ∧ Evo ofJ outR ah ρ2 A' ∧ LJ ρ2 I' A' j2 d 262144 lives2 s2 syn2 sz2 ∧ ByRows I' av2 s2.recs ∧ s2.turn ≤ i + 1 ∧ s2.part ≤ i + 1 ∧ lives2 ≤ i + 1 + 1 ∧ s2.recs.length ≤ 6 * (i + 1) ∧ sz2 ≤ 1700 * (i + 1) ∧ (∀ x ∈ s2.recs, x.length ≤ 200)) ?_ ?_
          · refine CW_seq ?_
            refine CW_region (l := [_, _]) ?_
            refine WL_val rfl (PE_fieldAddr fa_bandboxlaw14_Act_0 rfl) ?_
            refine WL_val rfl (PE_load tc_int rfl (.imm g0)) ?_
            refine WL_nil ?_
            refine QA_seq ?_
            refine CW_block ?_
            refine CW_seq ?_
            refine CW_region (l := [_, _]) ?_
            refine WL_val rfl (PE_eqi rfl rfl rfl) ?_
            refine WL_val rfl (PE_assign rfl) ?_
            refine WL_nil ?_
            refine QA_seq ?_
            refine CW_cond rfl (fun c11 => ?_) (fun c11 => ?_)
            · skip
              refine CW_seq ?_
              refine CW_seq ?_
              refine CW_region (l := [_, _, _, _, _]) ?_
              refine WL_val rfl (PE_move rfl) ?_
              refine WL_val rfl (PE_fieldAddr fa_bandboxlaw14_Act_4 rfl) ?_
              refine WL_val rfl (PE_load tc_sl_sl_uint8 rfl (.imm g4)) ?_
              refine WL_op rfl (OE_call (l := [_, _]) E_journal_Journal_Add rfl rfl (l_add (ls := x.l) hj hwr (fun y hy => by have := hl200 y hy; omega) (by omega) (by omega))) ?_
              rintro _ I34_3 ah34_3 ⟨_, rfl, hI34, _, rfl, ρ34, he34, hj34⟩
              refine WL_val rfl (PE_nei rfl rfl rfl) ?_
              refine WL_nil ?_
              refine QA_seq ?_
              refine CW_false rfl ?_
              refine CW_skip ?_
              refine QA_seq ?_
              have hava := hav.mono hI34
              obtain ⟨avs, has, har⟩ := hava
              obtain ⟨aa, ac, rfl, _⟩ := has.form
              have hal : avs.length = s.recs.length := by have := has.len; omega
              have hwl : wvs.length = x.l.length := by have := hws.len; omega
              refine CW_drawS (l := [_, _, _, _, _, _, _]) 7 mixed ?_
              refine WA_take 1 rfl (by kernel_rfl) (by kernel_rfl) (by kernel_rfl) (by kernel_rfl) rfl (by kernel_rfl) rfl (IM.le.refl _) (fun _ _ h => h) (PE_move rfl) ?_
              refine WA_take 3 rfl (by kernel_rfl) (by kernel_rfl) (by kernel_rfl) (by kernel_rfl) rfl (by kernel_rfl) rfl (IM.le.refl _) (fun _ _ h => h) (PE_fieldAddr fa_bandboxlaw14_Act_4 rfl) ?_
              refine WA_take 4 rfl (by kernel_rfl) (by kernel_rfl) (by kernel_rfl) (by kernel_rfl) rfl (by kernel_rfl) rfl (IM.le.refl _) (fun _ _ h => h) (PE_load tc_sl_sl_uint8 rfl (.imm (hI34 _ _ _ g4))) ?_
              refine WA_op 0 rfl rfl (by kernel_rfl) (OE_litO (l := []) (vs := []) und_sl_sl_uint8 te_sl_uint8 rfl rfl rfl (by simp [Value.cells]) (by decide) rfl rfl) ?_ ?_
              · rintro _ I36_0 ah36_0 ⟨v36_0, rfl, hI36_0, hv36_0, hn36_0⟩; exact ⟨hI36_0, Own.base hv36_0⟩
              rintro _ I36_0 ah36_0 ⟨v36_0, rfl, hI36_0, hv36_0, hn36_0⟩
              obtain ⟨e0a, e0c, rfl, _⟩ := SlI.form hv36_0.sl
              refine WA_op 2 rfl rfl (by kernel_rfl) (OE_append (n := 0) (m := s.recs.length) (vs := []) (us := avs) und_sl_sl_uint8 ⟨_, und_sl_sl_uint8⟩ te_sl_uint8 rfl rfl rfl hv36_0 ((has.mono hI36_0).src _) (rows_one har hal) (by decide) (by omega) (by omega)) ?_ ?_
              · rintro _ I36_2 ah36_2 ⟨v36_2, rfl, hI36_2, hv36_2, hn36_2⟩; exact ⟨hI36_0.trans hI36_2, Own.base hv36_2⟩
              rintro _ I36_2 ah36_2 ⟨v36_2, rfl, hI36_2, hv36_2, hn36_2⟩
              obtain ⟨e2a, e2c, rfl, _⟩ := SlI.form hv36_2.sl
              refine WA_op 5 rfl rfl (by kernel_rfl) (OE_append (n := 0 + s.recs.length) (m := x.l.length) (vs := [] ++ avs) (us := wvs) und_sl_sl_uint8 ⟨_, und_sl_sl_uint8⟩ te_sl_uint8 rfl rfl rfl hv36_2 ((hws.mono ((hI34.trans hI36_0).trans hI36_2)).src _) (rows_one hwrr hwl) (by decide) (by omega) (by omega)) ?_ ?_
              · rintro _ I36_5 ah36_5 ⟨v36_5, rfl, hI36_5, hv36_5, hn36_5⟩; exact ⟨(hI36_0.trans hI36_2).trans hI36_5, Own.base hv36_5⟩
              rintro _ I36_5 ah36_5 ⟨v36_5, rfl, hI36_5, hv36_5, hn36_5⟩
              obtain ⟨na, nc, rfl, _⟩ := SlI.form hv36_5.sl
              have hrows36 : ByRows I36_5 (.slice na (0 + s.recs.length + x.l.length) nc) (s.recs ++ x.l) := by
                refine ⟨[] ++ avs ++ wvs, ?_, ?_⟩
                · rw [show (s.recs ++ x.l).length = 0 + s.recs.length + x.l.length by simp]; exact hv36_5.sl
                · exact rows_app hal (rows_mono har ((hI36_0.trans hI36_2).trans hI36_5)) (rows_mono hwrr (hI34.trans ((hI36_0.trans hI36_2).trans hI36_5)))
              refine WA_forget (Own.base hv36_5) ?_
              refine WA_take 6 rfl (by kernel_rfl) (by kernel_rfl) (by kernel_rfl) (by kernel_rfl) rfl (by kernel_rfl) rfl ((hI36_0.trans hI36_2).trans hI36_5) (fun _ _ h => h) (PE_assign rfl) ?_
              refine WA_done (by kernel_rfl) ?_
              refine QA_block_normal ?_
              exact QA_join _ ⟨ρ34, j, addJ s x.l, syn, sz + frSz x.l, lives, .slice na (0 + s.recs.length + x.l.length) nc, rfl, hI34.trans ((hI36_0.trans hI36_2).trans hI36_5), hev.trans he34, hj34.mono ((hI36_0.trans hI36_2).trans hI36_5), hrows36, by show s.turn ≤ _; omega, by show s.part ≤ _; omega, by omega, by show (s.recs ++ x.l).length ≤ _; rw [List.length_append]; omega, by omega, fun y hy => by
                rcases List.mem_append.1 (show y ∈ s.recs ++ x.l from hy) with h | h
                · exact hbs y h
                · exact hl200 y h⟩ (by repeat (first | exact .nil | refine .cons rfl ?_))
            · skip
              refine CW_seq ?_
              refine CW_region (l := [_, _]) ?_
              refine WL_val rfl (PE_eqi rfl rfl rfl) ?_
              refine WL_val rfl (PE_assign rfl) ?_
              refine WL_nil ?_
              refine QA_seq ?_
              refine CW_cond rfl (fun c13 => ?_) (fun c13 => ?_)
              · skip
                refine CW_seq ?_
                refine CW_seq ?_
                refine CW_region (l := [_, _, _]) ?_
                refine WL_val rfl (PE_move rfl) ?_
                refine WL_op rfl (OE_call (l := [_]) E_journal_Journal_Sync rfl rfl (l_sync hj)) ?_
                rintro _ I38_1 ah38_1 ⟨_, rfl, hI38, _, rfl, ρ38, he38, hj38⟩
                refine WL_val rfl (PE_nei rfl rfl rfl) ?_
                refine WL_nil ?_
                refine QA_seq ?_
                refine CW_false rfl ?_
                refine CW_skip ?_
                refine QA_seq ?_
                have hava := hav
                obtain ⟨avs, has, har⟩ := hava
                obtain ⟨aa, ac, rfl, _⟩ := has.form
                refine CW_region (l := [_, _, _]) ?_
                refine WL_val rfl (PE_move rfl) ?_
                refine WL_val rfl (PE_len und_sl_sl_uint8 rfl) ?_
                refine WL_val rfl (PE_assign rfl) ?_
                refine WL_nil ?_
                refine QA_block_normal ?_
                exact QA_join _ ⟨ρ38, j, s, s.recs.length, sz, lives, .slice aa s.recs.length ac, rfl, hI38, hev.trans he38, hj38, hav.mono hI38, by omega, by omega, by omega, by omega, by omega, hbs⟩ (by repeat (first | exact .nil | refine .cons rfl ?_))
              · skip
                refine CW_seq ?_
                refine CW_region (l := [_, _]) ?_
                refine WL_val rfl (PE_eqi rfl rfl rfl) ?_
                refine WL_val rfl (PE_assign rfl) ?_
                refine WL_nil ?_
                refine QA_seq ?_
                refine CW_cond rfl (fun c15 => ?_) (fun c15 => ?_)
                · skip
                  refine CW_seq ?_
                  refine CW_seq ?_
                  refine CW_region (l := [_, _, _, _, _]) ?_
                  refine WL_val rfl (PE_move rfl) ?_
                  refine WL_val rfl (PE_fieldAddr fa_bandboxlaw14_Act_3 rfl) ?_
                  refine WL_val rfl (PE_load tc_sl_uint8 rfl (.imm g3)) ?_
                  refine WL_op rfl (OE_call (l := [_, _]) E_journal_Journal_Keep rfl rfl (l_keep (bs := x.b) hj hbv (by omega) (by omega) (by omega))) ?_
                  rintro _ I42_3 ah42_3 ⟨_, rfl, hI42, _, rfl, ρ42, he42, hj42⟩
                  refine WL_val rfl (PE_nei rfl rfl rfl) ?_
                  refine WL_nil ?_
                  refine QA_seq ?_
                  refine CW_false rfl ?_
                  refine CW_skip ?_
                  refine QA_seq ?_
                  refine CW_region (l := [_, _, _, _, _, _]) ?_
                  refine WL_val rfl (PE_fieldAddr fa_bandboxlaw14_Act_3 rfl) ?_
                  refine WL_val rfl (PE_load tc_sl_uint8 rfl (.imm (hI42 _ _ _ g3))) ?_
                  refine WL_val rfl (PE_convBS (l := x.b) und_sl_uint8 und_uint8 und_string rfl ((hbv.mono hI42).src _)) ?_
                  refine WL_val rfl (PE_assign rfl) ?_
                  refine WL_val rfl (PE_assign rfl) ?_
                  refine WL_val rfl (PE_assign rfl) ?_
                  refine WL_nil ?_
                  refine QA_block_normal ?_
                  exact QA_join _ ⟨ρ42, j, keptJ s x.b, 0, sz + (x.b.length + 28), lives, .slice none 0 0, rfl, hI42, hev.trans he42, hj42, ByRows.nil _, by show s.turn + 1 ≤ _; omega, Nat.zero_le _, by omega, Nat.zero_le _, by omega, fun y hy => by cases hy⟩ (by repeat (first | exact .nil | refine .cons rfl ?_))
                · skip
                  refine CW_seq ?_
                  refine CW_region (l := [_, _, _, _, _, _]) ?_
                  refine WL_val rfl (PE_move rfl) ?_
                  refine WL_val rfl (PE_fieldAddr fa_bandboxlaw14_Act_2 rfl) ?_
                  refine WL_val rfl (PE_load tc_uint64 rfl (.imm g2)) ?_
                  refine WL_val rfl (PE_fieldAddr fa_bandboxlaw14_Act_1 rfl) ?_
                  refine WL_val rfl (PE_load tc_int rfl (.imm g1)) ?_
                  refine WL_op rfl (OE_call (l := [_, _, _]) E_disk_Disk_Crash rfl rfl (l_crash hj (by omega) x.mask hmask x.n ⟨hn1, hn2⟩)) ?_
                  rintro _ I24_5 ah24_5 ⟨_, rfl, hI24, _, ρ24, m, n, he24, hd24, hm1, hm2, hn24, _, _⟩
                  refine WL_nil ?_
                  refine QA_seq ?_
                  refine CW_seq ?_
                  refine CW_region (l := [_, _]) ?_
                  refine WL_val rfl (PE_move rfl) ?_
                  refine WL_op rfl (OE_call (l := [_]) E_disk_Disk_On rfl rfl (l_on hd24 (by omega))) ?_
                  rintro _ I25_1 ah25_1 ⟨_, rfl, hI25, _, he25, hd25⟩
                  refine WL_nil ?_
                  refine QA_seq ?_
                  refine CW_seq ?_
                  refine CW_region (l := [_, _, _, _, _, _, _]) ?_
                  refine WL_val rfl (PE_move rfl) ?_
                  refine WL_op rfl (OE_call (l := [_]) E_journal_Open rfl rfl (l_open hd25)) ?_
                  rintro _ I26_1 ah26_1 ⟨_, rfl, hI26, _, o, ρ26, s26, rfl, he26, hj26, hr26, hb26, ht26, hp26⟩
                  have hlm : (s.recs.take m).length = m := by rw [List.length_take]; omega
                  rw [hlm] at hj26
                  have hsm26 : ∀ y ∈ s26.recs, y.length ≤ 1048576 := by
                    rw [hr26]; exact fun y hy => by have := hbs y (List.mem_of_mem_take hy); omega
                  refine WL_val rfl (PE_move rfl) ?_
                  refine WL_val rfl (PE_extract rfl rfl) ?_
                  refine WL_val rfl (PE_extract rfl rfl) ?_
                  refine WL_val rfl (PE_assign rfl) ?_
                  refine WL_val rfl (PE_assign rfl) ?_
                  refine WL_nil ?_
                  refine QA_seq ?_
                  refine CW_seq ?_
                  refine CW_seq ?_
                  refine CW_region (l := [_, _, _, _, _, _]) ?_
                  refine WL_val rfl (PE_move rfl) ?_
                  refine WL_val rfl (PE_nei rfl rfl rfl) ?_
                  refine WL_val rfl (PE_move rfl) ?_
                  refine WL_gon rfl rfl rfl ?_
                  refine WL_val rfl (PE_move rfl) ?_
                  refine WL_gon rfl rfl rfl ?_
                  refine WL_val rfl (PE_eqpn und_p_journal_Journal rfl rfl rfl) ?_
                  refine WL_val rfl (PE_pick rfl (fun _ => rfl) (fun _ => rfl)) ?_
                  refine WL_nil ?_
                  refine QA_seq ?_
                  refine CW_false rfl ?_
                  refine CW_skip ?_
                  refine QA_seq ?_
                  refine CW_seq ?_
                  refine CW_region (l := [_, _, _, _]) ?_
                  refine WL_val rfl (PE_move rfl) ?_
                  refine WL_op rfl (OE_call (l := [_]) E_journal_Journal_All rfl rfl (l_all hj26 hsm26)) ?_
                  rintro _ I29_1 ah29_1 ⟨v291, rfl, hI291, rfl, hr291⟩
                  rw [hr26] at hr291
                  obtain ⟨vs291, hs291, _⟩ := hr291
                  obtain ⟨a291, c291, rfl, _⟩ := hs291.form
                  rw [hlm]
                  refine WL_val rfl (PE_len und_sl_sl_uint8 rfl) ?_
                  refine WL_val rfl (PE_assign rfl) ?_
                  refine WL_nil ?_
                  refine QA_seq ?_
                  refine CW_seq ?_
                  refine CW_seq ?_
                  have hIc := ((hI24.trans hI25).trans hI26).trans hI291
                  have havc := hav.mono hIc
                  have hava := havc
                  obtain ⟨avs, has, har⟩ := hava
                  obtain ⟨aa, ac, rfl, hcap, _⟩ := has.form
                  refine CW_drawS (l := [_, _, _, _, _, _, _, _, _, _, _, _, _, _, _, _, _, _]) 18 mixed ?_
                  refine WA_take 0 rfl (by kernel_rfl) (by kernel_rfl) (by kernel_rfl) (by kernel_rfl) rfl (by kernel_rfl) rfl (IM.le.refl _) (fun _ _ h => h) (PE_move rfl) ?_
                  refine WA_take 1 rfl (by kernel_rfl) (by kernel_rfl) (by kernel_rfl) (by kernel_rfl) rfl (by kernel_rfl) rfl (IM.le.refl _) (fun _ _ h => h) (PE_move rfl) ?_
                  refine WA_take 2 rfl (by kernel_rfl) (by kernel_rfl) (by kernel_rfl) (by kernel_rfl) rfl (by kernel_rfl) rfl (IM.le.refl _) (fun _ _ h => h) (PE_lss (b := false) rfl rfl (by simp; omega)) ?_
                  refine WA_take 3 rfl (by kernel_rfl) (by kernel_rfl) (by kernel_rfl) (by kernel_rfl) rfl (by kernel_rfl) rfl (IM.le.refl _) (fun _ _ h => h) (PE_move rfl) ?_
                  refine WA_takeG 4 rfl rfl rfl rfl (by kernel_rfl) (by kernel_rfl) (by kernel_rfl) (by kernel_rfl) rfl (by kernel_rfl) rfl (IM.le.refl _) (fun _ _ h => h) (PE_move rfl) ?_
                  refine WA_takeG 5 rfl rfl rfl rfl (by kernel_rfl) (by kernel_rfl) (by kernel_rfl) (by kernel_rfl) rfl (by kernel_rfl) rfl (IM.le.refl _) (fun _ _ h => h) (PE_move rfl) ?_
                  refine WA_takeG 6 rfl rfl rfl rfl (by kernel_rfl) (by kernel_rfl) (by kernel_rfl) (by kernel_rfl) rfl (by kernel_rfl) rfl (IM.le.refl _) (fun _ _ h => h) (PE_len und_sl_sl_uint8 rfl) ?_
                  refine WA_takeG 7 rfl rfl rfl rfl (by kernel_rfl) (by kernel_rfl) (by kernel_rfl) (by kernel_rfl) rfl (by kernel_rfl) rfl (IM.le.refl _) (fun _ _ h => h) (PE_gtr (b := false) rfl rfl (by simp; omega)) ?_
                  refine WA_take 8 rfl (by kernel_rfl) (by kernel_rfl) (by kernel_rfl) (by kernel_rfl) rfl (by kernel_rfl) rfl (IM.le.refl _) (fun _ _ h => h) (PE_pick rfl (fun _ => rfl) (fun _ => rfl)) ?_
                  refine WA_take 9 rfl (by kernel_rfl) (by kernel_rfl) (by kernel_rfl) (by kernel_rfl) rfl (by kernel_rfl) rfl (IM.le.refl _) (fun _ _ h => h) (PE_move rfl) ?_
                  refine WA_takeG 10 rfl rfl rfl rfl (by kernel_rfl) (by kernel_rfl) (by kernel_rfl) (by kernel_rfl) rfl (by kernel_rfl) rfl (IM.le.refl _) (fun _ _ h => h) (PE_move rfl) ?_
                  refine WA_takeG 12 rfl rfl rfl rfl (by kernel_rfl) (by kernel_rfl) (by kernel_rfl) (by kernel_rfl) rfl (by kernel_rfl) rfl (IM.le.refl _) (fun _ _ h => h) (PE_move rfl) ?_
                  refine WA_takeG 13 rfl rfl rfl rfl (by kernel_rfl) (by kernel_rfl) (by kernel_rfl) (by kernel_rfl) rfl (by kernel_rfl) rfl (IM.le.refl _) (fun _ _ h => h) (PE_move rfl) ?_
                  refine WA_takeG 14 rfl rfl rfl rfl (by kernel_rfl) (by kernel_rfl) (by kernel_rfl) (by kernel_rfl) rfl (by kernel_rfl) rfl (IM.le.refl _) (fun _ _ h => h) (PE_sliceTo (h := m) und_sl_sl_uint8 te_sl_uint8.size rfl rfl rfl (by omega)) ?_
                  refine WA_opG 11 rfl rfl rfl rfl (by kernel_rfl) (OE_call (l := [_]) E_journal_Journal_All rfl rfl (l_all (hj26.mono hI291) hsm26)) ?_ ?_
                  · rintro _ I30_11 ah30_11 ⟨v3011, rfl, hI3011, rfl, hr3011⟩; exact ⟨hI3011, fun _ _ h => h⟩
                  rintro _ I30_11 ah30_11 ⟨v3011, rfl, hI3011, rfl, hr3011⟩
                  rw [hr26] at hr3011
                  refine WA_opG 15 rfl rfl rfl rfl (by kernel_rfl) (OE_call (l := [_, _]) E_bandboxlaw14_same rfl rfl (same_spec _ _ _ _ _ (s.recs.take m) (s.recs.take m) hr3011 ((ByRows.take havc (by omega)).mono hI3011) (by omega) (by omega))) ?_ ?_
                  · rintro _ I30_15 ah30_15 ⟨_, rfl, _, rfl, rfl, rfl⟩; exact ⟨hI3011, fun _ _ h => h⟩
                  rintro _ I30_15 ah30_15 ⟨_, rfl, _, rfl, rfl, rfl⟩
                  rw [decide_eq_true rfl]
                  refine WA_takeG 16 rfl rfl rfl rfl (by kernel_rfl) (by kernel_rfl) (by kernel_rfl) (by kernel_rfl) rfl (by kernel_rfl) rfl (hI3011) (fun _ _ h => h) (PE_un rfl (rfl)) ?_
                  refine WA_take 17 rfl (by kernel_rfl) (by kernel_rfl) (by kernel_rfl) (by kernel_rfl) rfl (by kernel_rfl) rfl (hI3011) (fun _ _ h => h) (PE_pick rfl (fun _ => rfl) (fun _ => rfl)) ?_
                  refine WA_done (by kernel_rfl) ?_
                  refine QA_seq ?_
                  refine CW_false rfl ?_
                  refine CW_skip ?_
                  refine QA_seq ?_
                  refine CW_drawS (l := [_, _, _, _, _, _, _, _, _]) 9 mixed ?_
                  refine WA_take 0 rfl (by kernel_rfl) (by kernel_rfl) (by kernel_rfl) (by kernel_rfl) rfl (by kernel_rfl) rfl (IM.le.refl _) (fun _ _ h => h) (PE_move rfl) ?_
                  refine WA_take 1 rfl (by kernel_rfl) (by kernel_rfl) (by kernel_rfl) (by kernel_rfl) rfl (by kernel_rfl) rfl (IM.le.refl _) (fun _ _ h => h) (PE_move rfl) ?_
                  refine WA_take 2 rfl (by kernel_rfl) (by kernel_rfl) (by kernel_rfl) (by kernel_rfl) rfl (by kernel_rfl) rfl (IM.le.refl _) (fun _ _ h => h) (PE_move rfl) ?_
                  refine WA_take 3 rfl (by kernel_rfl) (by kernel_rfl) (by kernel_rfl) (by kernel_rfl) rfl (by kernel_rfl) rfl (IM.le.refl _) (fun _ _ h => h) (PE_move rfl) ?_
                  refine WA_take 4 rfl (by kernel_rfl) (by kernel_rfl) (by kernel_rfl) (by kernel_rfl) rfl (by kernel_rfl) rfl (IM.le.refl _) (fun _ _ h => h) (PE_slice3 (h := m) und_sl_sl_uint8 te_sl_uint8.size rfl rfl rfl (by omega)) ?_
                  refine WA_take 5 rfl (by kernel_rfl) (by kernel_rfl) (by kernel_rfl) (by kernel_rfl) rfl (by kernel_rfl) rfl (IM.le.refl _) (fun _ _ h => h) (PE_move rfl) ?_
                  refine WA_take 6 rfl (by kernel_rfl) (by kernel_rfl) (by kernel_rfl) (by kernel_rfl) rfl (by kernel_rfl) rfl (IM.le.refl _) (fun _ _ h => h) (PE_assign rfl) ?_
                  refine WA_take 7 rfl (by kernel_rfl) (by kernel_rfl) (by kernel_rfl) (by kernel_rfl) rfl (by kernel_rfl) rfl (IM.le.refl _) (fun _ _ h => h) (PE_assign rfl) ?_
                  refine WA_take 8 rfl (by kernel_rfl) (by kernel_rfl) (by kernel_rfl) (by kernel_rfl) rfl (by kernel_rfl) rfl (IM.le.refl _) (fun _ _ h => h) (PE_assign rfl) ?_
                  refine WA_done (by kernel_rfl) ?_
                  refine QA_block_normal ?_
                  exact QA_join _ ⟨ρ26, o, s26, m, sz, lives + 1, .slice aa m m, by rw [hb26], hIc.trans hI3011, hev.trans (((he24.mono ofD_J).trans (he25.mono ofD_J)).trans he26), hj26.mono (hI291.trans hI3011), by rw [hr26]; exact (ByRows.take3 havc (by omega)).mono hI3011, by omega, by omega, by omega, by rw [hr26, List.length_take]; omega, by omega, by rw [hr26]; exact fun y hy => hbs y (List.mem_of_mem_take hy)⟩ (by repeat (first | exact .nil | refine .cons rfl ?_))
          · rintro _ I3 A3 ⟨ρ2, j2, s2, syn2, sz2, lives2, av2, rfl, hI3, hev2, hj2, hav2, hb1, hb2, hb3, hb4, hb5, hb6'⟩
            refine CW_seq ?_
            refine CW_region (l := [_, _, _, _, _, _, _, _, _, _, _, _, _, _, _, _]) ?_
            refine WL_val rfl (PE_move rfl) ?_
            refine WL_op rfl (OE_call (l := [_]) E_journal_Journal_Base rfl rfl (l_base hj2)) ?_
            rintro _ I45_1 ah45_1 ⟨v451, rfl, hI451, rfl, hb451⟩
            refine WL_val rfl (PE_convBS (l := s2.base) und_sl_uint8 und_uint8 und_string rfl (hb451.src _)) ?_
            refine WL_val rfl (PE_move rfl) ?_
            refine WL_val rfl (PE_nes (b := false) rfl rfl (by simp)) ?_
            refine WL_val rfl (PE_move rfl) ?_
            refine WL_gon rfl rfl rfl ?_
            refine WL_val rfl (PE_move rfl) ?_
            refine WL_gon rfl rfl rfl ?_
            refine WL_op rfl (OE_call (l := [_]) E_journal_Journal_All rfl rfl (l_all (hj2.mono hI451) (fun y hy => by have := hb6' y hy; omega))) ?_
            rintro _ I45_7 ah45_7 ⟨v457, rfl, hI457, rfl, hr457⟩
            refine WL_gon rfl rfl rfl ?_
            refine WL_val rfl (PE_move rfl) ?_
            refine WL_gon rfl rfl rfl ?_
            refine WL_op rfl (OE_call (l := [_, _]) E_bandboxlaw14_same rfl rfl (same_spec _ _ _ _ _ s2.recs s2.recs hr457 (hav2.mono (hI451.trans hI457)) (by omega) (by omega))) ?_
            rintro _ I45_9 ah45_9 ⟨_, rfl, _, rfl, rfl, rfl⟩
            rw [decide_eq_true rfl]
            refine WL_gon rfl rfl rfl ?_
            refine WL_val rfl (PE_un rfl (rfl)) ?_
            refine WL_val rfl (PE_pick rfl (fun _ => rfl) (fun _ => rfl)) ?_
            refine WL_val rfl (PE_move rfl) ?_
            refine WL_gon rfl rfl rfl ?_
            refine WL_val rfl (PE_move rfl) ?_
            refine WL_gon rfl rfl rfl ?_
            refine WL_op rfl (OE_call (l := [_]) E_journal_Journal_Done rfl rfl (l_done (hj2.mono (hI451.trans hI457)))) ?_
            rintro _ I45_14 ah45_14 ⟨_, rfl, _, rfl, rfl, rfl⟩
            refine WL_val rfl (PE_pick rfl (fun _ => rfl) (fun _ => rfl)) ?_
            refine WL_nil ?_
            refine QA_seq ?_
            refine CW_false rfl ?_
            refine CW_skip ?_
            refine QA_block_normal ?_
            refine QA_seq ?_
            refine CW_region (l := [_, _, _]) ?_
            refine WL_val rfl (PE_move rfl) ?_
            refine WL_val rfl (PE_add (r := ((i + 1 : Nat) : Int)) rfl rfl (w64e (by push_cast; rfl) (by omega) (by omega))) ?_
            refine WL_val rfl (PE_assign rfl) ?_
            refine WL_nil ?_
            exact QA_round (acts.length - (i + 1)) _ (by omega) ⟨ρ2, j2, s2, syn2, sz2, lives2, av2, i + 1, rfl, hI2.trans (hI15.trans (hI3.trans (hI451.trans hI457))), hev2, hj2.mono (hI451.trans hI457), hav2.mono (hI451.trans hI457), rfl, hia, hb1, hb2, hb3, hb4, hb5, hb6'⟩ (by repeat (first | exact .nil | refine .cons rfl ?_))
    · skip
      refine CW_exit ?_
      refine QA_then_exit ?_
      refine QA_then_exit ?_
      refine QA_block_here ?_
      refine QA_seq ?_
      refine CW_seq ?_
      refine CW_region (l := [_]) ?_
      refine WL_val rfl (PE_assign rfl) ?_
      refine WL_nil ?_
      refine QA_seq ?_
      refine CW_ret ?_
      refine QA_return (rs := [_]) rfl rfl (hI1.trans ((hI5.trans hI6).trans hI2)) (ah) (out_sub hev (by simp [ofJ])) ?_
      exact ⟨rfl, rfl⟩

end Go.Proofs.YthdpebagkfloaaaDoor

