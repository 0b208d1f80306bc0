/- law 14: JournalKeeps, the walk. -/
import Derived.Test.YthdpebagkfloaaaDoorPAC
namespace Go.Proofs.YthdpebagkfloaaaDoor
open Go Go.RowKit SL
set_option linter.unusedVariables false
set_option linter.unusedSimpArgs false
set_option maxRecDepth 100000
namespace SL
theorem OE_pe {C : Cx} {env : Env} {I : IM} {ah : AH} {d ty : Nat} {ps : String} {af : Array Edge} {op : Op} {v : Value} (hd : Nat.blt d C.n = true) (h : PE C env I ah ⟨some d, op, ty, ps, af, none⟩ v) :
    OE C env I ah ⟨some d, op, ty, ps, af, none⟩ (fun e' I' ah' => (d, v) :: env = e' ∧ I = I' ∧ ah = ah') :=
  OE_ex hd (fun a w he hs => ⟨v, w, I, ah, h a w he hs, hs, rfl, rfl, rfl⟩)
end SL
theorem ByRows.take {I : IM} {a : Option Addr} {n c : Nat} {ls : List (List UInt8)} (h : ByRows I (.slice a n c) ls) {j : Nat} (hj : j ≤ ls.length) : ByRows I (.slice a j c) (ls.take j) := by
  obtain ⟨vs, h1, h2⟩ := h
  have hn : ls.length = n := by obtain ⟨_, _, e, _⟩ := SlI.form h1; cases e; rfl
  have hlen := h1.len
  have hs : SlI I (.slice a j c) 1 j (vs.take j) := by
    rw [hn] at h1
    have := SlI.piece h1 (l := 0) (h := j) (by omega) (by omega)
    by_cases hc : c = 0 <;> simp [hc] at this ⊢ <;> cases a <;> simp_all [Addr.add]
  have hlj : (ls.take j).length = j := by simp; omega
  refine ⟨vs.take j, by rw [hlj]; exact hs, fun i l e => ?_⟩
  have hi : i < j := by have := (List.getElem?_eq_some_iff.1 e).1; omega
  rw [List.getElem?_take_of_lt hi] at e
  obtain ⟨u, hu, hul⟩ := h2 i l e
  exact ⟨u, by rw [List.getElem?_take_of_lt hi]; exact hu, hul⟩

theorem frSz_bound (n : Nat) : ∀ (l : List (List UInt8)), (∀ x ∈ l, x.length ≤ n) → frSz l ≤ l.length * (n + 20)
  | [], _ => by simp [frSz]
  | x :: r, h => by
    have h1 := h x (by simp)
    have := frSz_bound n r (fun y hy => h y (by simp [hy]))
    rw [frSz, List.length_cons, Nat.add_mul]; omega
theorem rows_mono {I J : IM} {vs : List Value} {ls : List (List UInt8)} (h : ∀ (i : Nat) (l : List UInt8), ls[i]? = some l → ∃ u, vs[i]? = some u ∧ BySl I u l) (hI : IM.le I J) : ∀ (i : Nat) (l : List UInt8), ls[i]? = some l → ∃ u, vs[i]? = some u ∧ BySl J u l := fun i l e => by
  obtain ⟨u, a, b⟩ := h i l e; exact ⟨u, a, b.mono hI⟩
theorem rows_one {I : IM} {vs : List Value} {ls : List (List UInt8)} (h : ∀ (i : Nat) (l : List UInt8), ls[i]? = some l → ∃ u, vs[i]? = some u ∧ BySl I u l) (hl : vs.length = ls.length) : ∀ u ∈ vs, u.oneCell' = true := fun u hu => by
  obtain ⟨i, hi, e⟩ := List.mem_iff_getElem.1 hu
  obtain ⟨w, hw, hb⟩ := h i ls[i] (by simp)
  rw [List.getElem?_eq_getElem hi] at hw
  obtain ⟨a, c, rfl, _⟩ := hb.form
  have e2 := Option.some.inj hw
  rw [← e, e2]; rfl
def lastB : List UInt8 := [108, 97, 115, 116]

set_option maxHeartbeats 4000000 in
theorem keeps_walk (w0 : World) (I : IM) (ah : AH) (lv bvv mv : Value) (l m : List (List UInt8)) (base : List UInt8) (mask : Nat) (torn : Int) (hl : ByRows I lv l) (hb : BySl I bvv base) (hm : ByRows I mv m) (hmask : mask < 18446744073709551616) (htorn : -9223372036854775808 ≤ torn ∧ torn < 9223372036854775808) :
    SC P w0 n_bandboxlaw14_JournalKeeps [lv, bvv, mv, .int .u64 (mask : Nat), .int .i64 torn] I ah (fun v I' ah' => ah = ah' ∧ v = .bool true) := by
  have hl' := hl
  have hm' := hm
  obtain ⟨lvs, hls, hlr⟩ := hl'
  obtain ⟨mvs, hms, hmr⟩ := hm'
  obtain ⟨la, lc, hlv, _⟩ := hls.form
  obtain ⟨ma, mc, hmv, _⟩ := hms.form
  obtain ⟨ba, bc, rfl, _⟩ := hb.form
  refine SC_enter fn_bandboxlaw14_JournalKeeps rfl rfl (Nat.le_of_ble_eq_true rfl) ?_
  refine CW_seq ?_
  refine CW_region (l := [_]) ?_
  refine WL_val rfl (PE_assign rfl) ?_
  refine WL_nil ?_
  refine QA_seq ?_
  refine CW_seq ?_
  refine CW_seq ?_
  refine CW_region (l := [_, _]) ?_
  refine WL_op rfl (OE_call (l := []) E_bandboxlaw14_awake rfl rfl (awake_spec _ _ _)) ?_
  rintro _ I1_0 ah1_0 ⟨_, rfl, hI1, rfl, rfl⟩
  replace hl := hl.mono hI1
  replace hb := hb.mono hI1
  replace hm := hm.mono hI1
  replace hls := hls.mono hI1
  replace hms := hms.mono hI1
  replace hlr := rows_mono hlr hI1
  replace hmr := rows_mono hmr hI1
  refine WL_val rfl (PE_un rfl (rfl)) ?_
  refine WL_nil ?_
  refine QA_seq ?_
  refine CW_false rfl ?_
  refine CW_skip ?_
  refine QA_seq ?_
  refine CW_seq ?_
  refine CW_seq ?_
  have h4c : 12 < l.length ∨ (¬ 12 < l.length ∧ 12 < m.length) ∨ (¬ 12 < l.length ∧ ¬ 12 < m.length ∧ 500 < base.length) ∨ (¬ 12 < l.length ∧ ¬ 12 < m.length ∧ ¬ 500 < base.length) := by omega
  rcases h4c with h1 | ⟨h1, h2⟩ | ⟨h1, h2, h3⟩ | ⟨h1, h2, h3⟩
  · skip
    refine CW_region (l := [_, _, _, _, _, _, _, _, _, _, _, _, _]) ?_
    refine WL_val rfl (PE_move rfl) ?_
    refine WL_val rfl (PE_len und_sl_sl_uint8 (by rw [← hlv]; rfl)) ?_
    refine WL_val rfl (PE_gtr (b := true) rfl rfl (by simp; omega)) ?_
    refine WL_val rfl (PE_move rfl) ?_
    refine WL_gskip rfl rfl rfl (fun h => by cases h) rfl ?_
    refine WL_gskip rfl rfl rfl (fun h => by cases h) rfl ?_
    refine WL_gskip rfl rfl rfl (fun h => by cases h) rfl ?_
    refine WL_val rfl (PE_pick rfl (fun _ => rfl) (fun _ => rfl)) ?_
    refine WL_val rfl (PE_move rfl) ?_
    refine WL_gskip rfl rfl rfl (fun h => by cases h) rfl ?_
    refine WL_gskip rfl rfl rfl (fun h => by cases h) rfl ?_
    refine WL_gskip rfl rfl rfl (fun h => by cases h) rfl ?_
    refine WL_val rfl (PE_pick rfl (fun _ => rfl) (fun _ => rfl)) ?_
    refine WL_nil ?_
    refine QA_seq ?_
    refine CW_true rfl ?_
    refine CW_seq ?_
    refine CW_region (l := [_]) ?_
    refine WL_val rfl (PE_assign rfl) ?_
    refine WL_nil ?_
    refine QA_seq ?_
    refine CW_ret ?_
    refine QA_then_ret ?_
    refine QA_return (rs := [_]) rfl rfl (hI1) (_) (fun _ _ h => h) ?_
    exact ⟨rfl, rfl⟩
  · skip
    refine CW_region (l := [_, _, _, _, _, _, _, _, _, _, _, _, _]) ?_
    refine WL_val rfl (PE_move rfl) ?_
    refine WL_val rfl (PE_len und_sl_sl_uint8 (by rw [← hlv]; rfl)) ?_
    refine WL_val rfl (PE_gtr (b := false) rfl rfl (by simp; omega)) ?_
    refine WL_val rfl (PE_move rfl) ?_
    refine WL_gon rfl rfl rfl ?_
    refine WL_val rfl (PE_move rfl) ?_
    refine WL_gon rfl rfl rfl ?_
    refine WL_val rfl (PE_len und_sl_sl_uint8 (by rw [← hmv]; rfl)) ?_
    refine WL_gon rfl rfl rfl ?_
    refine WL_val rfl (PE_gtr (b := true) rfl rfl (by simp; omega)) ?_
    refine WL_val rfl (PE_pick rfl (fun _ => rfl) (fun _ => rfl)) ?_
    refine WL_val rfl (PE_move rfl) ?_
    refine WL_gskip rfl rfl rfl (fun h => by cases h) rfl ?_
    refine WL_gskip rfl rfl rfl (fun h => by cases h) rfl ?_
    refine WL_gskip rfl rfl rfl (fun h => by cases h) rfl ?_
    refine WL_val rfl (PE_pick rfl (fun _ => rfl) (fun _ => rfl)) ?_
    refine WL_nil ?_
    refine QA_seq ?_
    refine CW_true rfl ?_
    refine CW_seq ?_
    refine CW_region (l := [_]) ?_
    refine WL_val rfl (PE_assign rfl) ?_
    refine WL_nil ?_
    refine QA_seq ?_
    refine CW_ret ?_
    refine QA_then_ret ?_
    refine QA_return (rs := [_]) rfl rfl (hI1) (_) (fun _ _ h => h) ?_
    exact ⟨rfl, rfl⟩
  · skip
    refine CW_region (l := [_, _, _, _, _, _, _, _, _, _, _, _, _]) ?_
    refine WL_val rfl (PE_move rfl) ?_
    refine WL_val rfl (PE_len und_sl_sl_uint8 (by rw [← hlv]; rfl)) ?_
    refine WL_val rfl (PE_gtr (b := false) rfl rfl (by simp; omega)) ?_
    refine WL_val rfl (PE_move rfl) ?_
    refine WL_gon rfl rfl rfl ?_
    refine WL_val rfl (PE_move rfl) ?_
    refine WL_gon rfl rfl rfl ?_
    refine WL_val rfl (PE_len und_sl_sl_uint8 (by rw [← hmv]; rfl)) ?_
    refine WL_gon rfl rfl rfl ?_
    refine WL_val rfl (PE_gtr (b := false) rfl rfl (by simp; omega)) ?_
    refine WL_val rfl (PE_pick rfl (fun _ => rfl) (fun _ => rfl)) ?_
    refine WL_val rfl (PE_move rfl) ?_
    refine WL_gon rfl rfl rfl ?_
    refine WL_val rfl (PE_move rfl) ?_
    refine WL_gon rfl rfl rfl ?_
    refine WL_val rfl (PE_len und_sl_uint8 rfl) ?_
    refine WL_gon rfl rfl rfl ?_
    refine WL_val rfl (PE_gtr (b := true) rfl rfl (by simp; omega)) ?_
    refine WL_val rfl (PE_pick rfl (fun _ => rfl) (fun _ => rfl)) ?_
    refine WL_nil ?_
    refine QA_seq ?_
    refine CW_true rfl ?_
    refine CW_seq ?_
    refine CW_region (l := [_]) ?_
    refine WL_val rfl (PE_assign rfl) ?_
    refine WL_nil ?_
    refine QA_seq ?_
    refine CW_ret ?_
    refine QA_then_ret ?_
    refine QA_return (rs := [_]) rfl rfl (hI1) (_) (fun _ _ h => h) ?_
    exact ⟨rfl, rfl⟩
  · skip
    refine CW_region (l := [_, _, _, _, _, _, _, _, _, _, _, _, _]) ?_
    refine WL_val rfl (PE_move rfl) ?_
    refine WL_val rfl (PE_len und_sl_sl_uint8 (by rw [← hlv]; rfl)) ?_
    refine WL_val rfl (PE_gtr (b := false) rfl rfl (by simp; omega)) ?_
    refine WL_val rfl (PE_move rfl) ?_
    refine WL_gon rfl rfl rfl ?_
    refine WL_val rfl (PE_move rfl) ?_
    refine WL_gon rfl rfl rfl ?_
    refine WL_val rfl (PE_len und_sl_sl_uint8 (by rw [← hmv]; rfl)) ?_
    refine WL_gon rfl rfl rfl ?_
    refine WL_val rfl (PE_gtr (b := false) rfl rfl (by simp; omega)) ?_
    refine WL_val rfl (PE_pick rfl (fun _ => rfl) (fun _ => rfl)) ?_
    refine WL_val rfl (PE_move rfl) ?_
    refine WL_gon rfl rfl rfl ?_
    refine WL_val rfl (PE_move rfl) ?_
    refine WL_gon rfl rfl rfl ?_
    refine WL_val rfl (PE_len und_sl_uint8 rfl) ?_
    refine WL_gon rfl rfl rfl ?_
    refine WL_val rfl (PE_gtr (b := false) rfl rfl (by simp; omega)) ?_
    refine WL_val rfl (PE_pick rfl (fun _ => rfl) (fun _ => rfl)) ?_
    refine WL_nil ?_
    refine QA_seq ?_
    refine CW_false rfl ?_
    refine CW_skip ?_
    refine QA_seq ?_
    refine CW_seq ?_
    refine CW_seq ?_
    refine CW_region (l := [_]) ?_
    refine WL_val rfl (PE_assign rfl) ?_
    refine WL_nil ?_
    refine QA_seq ?_
    refine CW_block ?_
    refine CW_loop (fun m0 e I' A' => ∃ k, e = [(0, lv), (1, .slice ba base.length bc), (2, mv), (3, .int .u64 (mask : Nat)), (4, .int .i64 torn), (11, .int .i64 (k : Nat))] ∧ I1_0 = I' ∧ ah = A' ∧ m0 = l.length - k ∧ k ≤ l.length ∧ (∀ (i : Nat) x, i < k → l[i]? = some x → x.length ≤ 200)) (l.length) (e0 := [(0, lv), (1, .slice ba base.length bc), (2, mv), (3, .int .u64 (mask : Nat)), (4, .int .i64 torn), (11, .int .i64 ((0 : Nat) : Int))]) (⟨0, rfl, rfl, rfl, rfl, Nat.zero_le _, fun i x h => by omega⟩) (by repeat (first | exact .nil | refine .cons rfl ?_)) ?_
    rintro m0 e I ah ⟨k, rfl, rfl, rfl, rfl, hk, hall⟩
    refine CW_seq ?_
    refine CW_seq ?_
    refine CW_region (l := [_, _, _, _]) ?_
    refine WL_val rfl (PE_move rfl) ?_
    refine WL_val rfl (PE_move rfl) ?_
    refine WL_val rfl (PE_len und_sl_sl_uint8 (by rw [← hlv]; rfl)) ?_
    refine WL_val rfl (PE_lss (b := decide (k < l.length)) rfl rfl (by simp)) ?_
    refine WL_nil ?_
    refine QA_seq ?_
    refine CW_cond rfl (fun c6 => ?_) (fun c6 => ?_)
    · have hka : k < l.length := by simpa using c6
      obtain ⟨b1, o1, cc1, hvb, _, hcv⟩ := SlI.at hls hka
      obtain ⟨u, hu, hul⟩ := hlr k l[k] (by simp)
      obtain ⟨ua, uc, rfl, _⟩ := hul.form
      refine CW_skip ?_
      refine QA_seq ?_
      refine CW_seq ?_
      refine CW_block ?_
      refine CW_seq ?_
      refine CW_region (l := [_, _, _, _, _, _]) ?_
      refine WL_val rfl (PE_move rfl) ?_
      refine WL_val rfl (PE_move rfl) ?_
      refine WL_val rfl (PE_index1 und_sl_sl_uint8 te_sl_uint8.size (by rw [← hvb]; rfl) rfl rfl hka) ?_
      refine WL_val rfl (PE_load tc_sl_uint8 rfl (.imm (hcv k _ hu))) ?_
      refine WL_val rfl (PE_len und_sl_uint8 rfl) ?_
      refine WL_val rfl (PE_gtr rfl rfl rfl) ?_
      refine WL_nil ?_
      refine QA_seq ?_
      refine CW_cond rfl (fun c7 => ?_) (fun c7 => ?_)
      · skip
        refine CW_seq ?_
        refine CW_region (l := [_]) ?_
        refine WL_val rfl (PE_assign rfl) ?_
        refine WL_nil ?_
        refine QA_seq ?_
        refine CW_ret ?_
        refine QA_block_ret ?_
        refine QA_then_ret ?_
        refine QA_then_ret ?_
        refine QA_block_ret ?_
        refine QA_then_ret ?_
        refine QA_return (rs := [_]) rfl rfl (hI1) (_) (fun _ _ h => h) ?_
        exact ⟨rfl, rfl⟩
      · skip
        refine CW_skip ?_
        refine QA_block_normal ?_
        refine QA_seq ?_
        refine CW_region (l := [_, _, _]) ?_
        refine WL_val rfl (PE_move rfl) ?_
        refine WL_val rfl (PE_add (r := ((k + 1 : Nat) : Int)) rfl rfl (w64e (by push_cast; rfl) (by omega) (by omega))) ?_
        refine WL_val rfl (PE_assign rfl) ?_
        refine WL_nil ?_
        exact QA_round (l.length - (k + 1)) _ (by omega) ⟨k + 1, rfl, rfl, rfl, rfl, hka, fun i x hi e => by
          rcases Nat.lt_or_ge i k with h | h
          · exact hall i x h e
          · obtain rfl : i = k := by omega
            have h0 : ((l[i].length : Nat) : Int) ≤ 200 := (by simpa using c7)
            rw [List.getElem?_eq_getElem hka] at e; cases e; omega⟩ (by repeat (first | exact .nil | refine .cons rfl ?_))
    · have hke : k = l.length := by
        have h0 : ¬ k < l.length := (by simpa using c6)
        omega
      have halll : ∀ x ∈ l, x.length ≤ 200 := fun x hx => by
        obtain ⟨i, hi, e⟩ := List.mem_iff_getElem.1 hx
        exact hall i x (by omega) (by rw [← e]; exact List.getElem?_eq_getElem hi)
      clear hall
      subst hke
      refine CW_exit ?_
      refine QA_then_exit ?_
      refine QA_then_exit ?_
      refine QA_block_here ?_
      refine QA_seq ?_
      refine CW_seq ?_
      refine CW_seq ?_
      refine CW_region (l := [_]) ?_
      refine WL_val rfl (PE_assign rfl) ?_
      refine WL_nil ?_
      refine QA_seq ?_
      refine CW_block ?_
      refine CW_loop (fun m0 e I' A' => ∃ k, e = [(0, lv), (1, .slice ba base.length bc), (2, mv), (3, .int .u64 (mask : Nat)), (4, .int .i64 torn), (12, .int .i64 (k : Nat))] ∧ I1_0 = I' ∧ ah = A' ∧ m0 = m.length - k ∧ k ≤ m.length ∧ (∀ (i : Nat) x, i < k → m[i]? = some x → x.length ≤ 200)) (m.length) (e0 := [(0, lv), (1, .slice ba base.length bc), (2, mv), (3, .int .u64 (mask : Nat)), (4, .int .i64 torn), (12, .int .i64 ((0 : Nat) : Int))]) (⟨0, rfl, rfl, rfl, rfl, Nat.zero_le _, fun i x h => by omega⟩) (by repeat (first | exact .nil | refine .cons rfl ?_)) ?_
      rintro m0 e I ah ⟨k, rfl, rfl, rfl, rfl, hk, hall⟩
      refine CW_seq ?_
      refine CW_seq ?_
      refine CW_region (l := [_, _, _, _]) ?_
      refine WL_val rfl (PE_move rfl) ?_
      refine WL_val rfl (PE_move rfl) ?_
      refine WL_val rfl (PE_len und_sl_sl_uint8 (by rw [← hmv]; rfl)) ?_
      refine WL_val rfl (PE_lss (b := decide (k < m.length)) rfl rfl (by simp)) ?_
      refine WL_nil ?_
      refine QA_seq ?_
      refine CW_cond rfl (fun c8 => ?_) (fun c8 => ?_)
      · have hka : k < m.length := by simpa using c8
        obtain ⟨b1, o1, cc1, hvb, _, hcv⟩ := SlI.at hms hka
        obtain ⟨u, hu, hul⟩ := hmr k m[k] (by simp)
        obtain ⟨ua, uc, rfl, _⟩ := hul.form
        refine CW_skip ?_
        refine QA_seq ?_
        refine CW_seq ?_
        refine CW_block ?_
        refine CW_seq ?_
        refine CW_region (l := [_, _, _, _, _, _]) ?_
        refine WL_val rfl (PE_move rfl) ?_
        refine WL_val rfl (PE_move rfl) ?_
        refine WL_val rfl (PE_index1 und_sl_sl_uint8 te_sl_uint8.size (by rw [← hvb]; rfl) rfl rfl hka) ?_
        refine WL_val rfl (PE_load tc_sl_uint8 rfl (.imm (hcv k _ hu))) ?_
        refine WL_val rfl (PE_len und_sl_uint8 rfl) ?_
        refine WL_val rfl (PE_gtr rfl rfl rfl) ?_
        refine WL_nil ?_
        refine QA_seq ?_
        refine CW_cond rfl (fun c9 => ?_) (fun c9 => ?_)
        · skip
          refine CW_seq ?_
          refine CW_region (l := [_]) ?_
          refine WL_val rfl (PE_assign rfl) ?_
          refine WL_nil ?_
          refine QA_seq ?_
          refine CW_ret ?_
          refine QA_block_ret ?_
          refine QA_then_ret ?_
          refine QA_then_ret ?_
          refine QA_block_ret ?_
          refine QA_then_ret ?_
          refine QA_return (rs := [_]) rfl rfl (hI1) (_) (fun _ _ h => h) ?_
          exact ⟨rfl, rfl⟩
        · skip
          refine CW_skip ?_
          refine QA_block_normal ?_
          refine QA_seq ?_
          refine CW_region (l := [_, _, _]) ?_
          refine WL_val rfl (PE_move rfl) ?_
          refine WL_val rfl (PE_add (r := ((k + 1 : Nat) : Int)) rfl rfl (w64e (by push_cast; rfl) (by omega) (by omega))) ?_
          refine WL_val rfl (PE_assign rfl) ?_
          refine WL_nil ?_
          exact QA_round (m.length - (k + 1)) _ (by omega) ⟨k + 1, rfl, rfl, rfl, rfl, hka, fun i x hi e => by
            rcases Nat.lt_or_ge i k with h | h
            · exact hall i x h e
            · obtain rfl : i = k := by omega
              have h0 : ((m[i].length : Nat) : Int) ≤ 200 := (by simpa using c9)
              rw [List.getElem?_eq_getElem hka] at e; cases e; omega⟩ (by repeat (first | exact .nil | refine .cons rfl ?_))
      · have hke : k = m.length := by
          have h0 : ¬ k < m.length := (by simpa using c8)
          omega
        have hallm : ∀ x ∈ m, x.length ≤ 200 := fun x hx => by
          obtain ⟨i, hi, e⟩ := List.mem_iff_getElem.1 hx
          exact hall i x (by omega) (by rw [← e]; exact List.getElem?_eq_getElem hi)
        clear hall
        subst hke
        have hfl := frSz_bound 200 l halll
        have hfm := frSz_bound 200 m hallm
        refine CW_exit ?_
        refine QA_then_exit ?_
        refine QA_then_exit ?_
        refine QA_block_here ?_
        refine QA_seq ?_
        refine CW_seq ?_
        refine CW_region (l := [_, _, _, _, _, _]) ?_
        refine WL_op rfl (OE_call (l := [_]) E_disk_New rfl rfl (l_new (ρ := outR) 262144 (by omega) (by omega))) ?_
        rintro _ I15_0 ah15_0 ⟨_, rfl, hI15, _, d, ρ15, rfl, he15, hd15⟩
        refine WL_val rfl (PE_move rfl) ?_
        refine WL_val rfl (PE_extract rfl rfl) ?_
        refine WL_val rfl (PE_extract rfl rfl) ?_
        refine WL_val rfl (PE_assign rfl) ?_
        refine WL_val rfl (PE_assign rfl) ?_
        refine WL_nil ?_
        refine QA_seq ?_
        refine CW_seq ?_
        refine CW_region (l := [_, _, _, _, _, _, _]) ?_
        refine WL_val rfl (PE_move rfl) ?_
        refine WL_op rfl (OE_call (l := [_]) E_journal_Open rfl rfl (l_open hd15)) ?_
        rintro _ I16_1 ah16_1 ⟨_, rfl, hI16, _, j, ρ16, s16, rfl, he16, hj16, hr16, hb16, ht16, hp16⟩
        refine WL_val rfl (PE_move rfl) ?_
        refine WL_val rfl (PE_extract rfl rfl) ?_
        refine WL_val rfl (PE_extract rfl rfl) ?_
        refine WL_val rfl (PE_assign rfl) ?_
        refine WL_val rfl (PE_assign rfl) ?_
        refine WL_nil ?_
        refine QA_seq ?_
        refine CW_seq ?_
        refine CW_seq ?_
        refine CW_region (l := [_, _, _, _, _, _, _, _, _, _, _, _, _, _, _, _, _, _, _, _, _, _, _, _, _, _, _, _, _, _, _, _, _, _, _, _, _]) ?_
        refine WL_val rfl (PE_move rfl) ?_
        refine WL_val rfl (PE_nei rfl rfl rfl) ?_
        refine WL_val rfl (PE_move rfl) ?_
        refine WL_gon rfl rfl rfl ?_
        refine WL_val rfl (PE_move rfl) ?_
        refine WL_gon rfl rfl rfl ?_
        refine WL_val rfl (PE_eqpn und_p_journal_Journal rfl rfl rfl) ?_
        refine WL_val rfl (PE_pick rfl (fun _ => rfl) (fun _ => rfl)) ?_
        refine WL_val rfl (PE_move rfl) ?_
        refine WL_gon rfl rfl rfl ?_
        refine WL_val rfl (PE_move rfl) ?_
        refine WL_gon rfl rfl rfl ?_
        refine WL_val rfl (PE_move rfl) ?_
        refine WL_gon rfl rfl rfl ?_
        refine WL_op rfl (OE_call (l := [_, _]) E_journal_Journal_Add rfl rfl (l_add (ls := l) hj16 (hl.mono (hI15.trans hI16)) (fun x hx => by have := halll x hx; omega) (by omega) (by rw [hr16]; simp; omega))) ?_
        rintro _ I17_9 ah17_9 ⟨_, rfl, hI17, _, rfl, ρ17, he17, hj17⟩
        refine WL_gon rfl rfl rfl ?_
        refine WL_val rfl (PE_nei rfl rfl rfl) ?_
        refine WL_val rfl (PE_pick rfl (fun _ => rfl) (fun _ => rfl)) ?_
        refine WL_val rfl (PE_move rfl) ?_
        refine WL_gon rfl rfl rfl ?_
        refine WL_val rfl (PE_move rfl) ?_
        refine WL_gon rfl rfl rfl ?_
        refine WL_val rfl (PE_move rfl) ?_
        refine WL_gon rfl rfl rfl ?_
        refine WL_op rfl (OE_call (l := [_, _]) E_journal_Journal_Keep rfl rfl (l_keep (bs := base) hj17 (hb.mono ((hI15.trans hI16).trans hI17)) (by omega) (by omega) (by show s16.turn + 1 < 100000; omega))) ?_
        rintro _ I17_15 ah17_15 ⟨_, rfl, hI18, _, rfl, ρ18, he18, hj18⟩
        refine WL_gon rfl rfl rfl ?_
        refine WL_val rfl (PE_nei rfl rfl rfl) ?_
        refine WL_val rfl (PE_pick rfl (fun _ => rfl) (fun _ => rfl)) ?_
        refine WL_val rfl (PE_move rfl) ?_
        refine WL_gon rfl rfl rfl ?_
        refine WL_val rfl (PE_move rfl) ?_
        refine WL_gon rfl rfl rfl ?_
        refine WL_val rfl (PE_move rfl) ?_
        refine WL_gon rfl rfl rfl ?_
        refine WL_op rfl (OE_call (l := [_, _]) E_journal_Journal_Add rfl rfl (l_add (ls := m) hj18 (hm.mono (((hI15.trans hI16).trans hI17).trans hI18)) (fun x hx => by have := hallm x hx; omega) (by omega) (by simp [keptJ]; omega))) ?_
        rintro _ I17_21 ah17_21 ⟨_, rfl, hI19, _, rfl, ρ19, he19, hj19⟩
        refine WL_gon rfl rfl rfl ?_
        refine WL_val rfl (PE_nei rfl rfl rfl) ?_
        refine WL_val rfl (PE_pick rfl (fun _ => rfl) (fun _ => rfl)) ?_
        refine WL_val rfl (PE_move rfl) ?_
        refine WL_gon rfl rfl rfl ?_
        refine WL_val rfl (PE_move rfl) ?_
        refine WL_gon rfl rfl rfl ?_
        refine WL_op rfl (OE_call (l := [_]) E_journal_Journal_Sync rfl rfl (l_sync hj19)) ?_
        rintro _ I17_26 ah17_26 ⟨_, rfl, hI20, _, rfl, ρ20, he20, hj20⟩
        generalize hs20 : addJ (keptJ (addJ s16 l) base) m = s20 at *
        have hrec20 : s20.recs = m := by rw [← hs20]; simp [addJ, keptJ]
        have hpart20 : s20.part = 0 := by rw [← hs20]; rfl
        have hbase20 : s20.base = base := by rw [← hs20]; rfl
        refine WL_gon rfl rfl rfl ?_
        refine WL_val rfl (PE_nei rfl rfl rfl) ?_
        refine WL_val rfl (PE_pick rfl (fun _ => rfl) (fun _ => rfl)) ?_
        refine WL_val rfl (PE_move rfl) ?_
        refine WL_gon rfl rfl rfl ?_
        refine WL_val rfl (PE_move rfl) ?_
        refine WL_gon rfl rfl rfl ?_
        refine WL_op rfl (OE_lit (l := [_, _, _, _]) (vs := [_, _, _, _]) und_sl_uint8 te_uint8 rfl rfl rfl (by simp [Value.cells]) (by decide) rfl) ?_
        rintro _ I17_31 ah17_31 ⟨b17_31, rfl, rfl, rfl, hb17_31, hw17_31⟩
        refine WL_gon rfl rfl rfl ?_
        refine WL_op rfl (OE_convLL und_sl_uint8 und_uint8 rfl rfl (AH.set_same _ _ _) rfl) ?_
        rintro _ I17_32 ah17_32 ⟨rfl, hIc17_31, hvc17_31, rfl⟩
        rw [AH.del_set, AH.del_none _ hb17_31]
        refine WL_gon rfl rfl rfl ?_
        refine WL_op rfl (OE_litI (l := [_]) (vs := [_]) und_sl_sl_uint8 te_sl_uint8 rfl rfl rfl (by simp [Value.cells]) (by decide) rfl rfl) ?_
        rintro _ I17_33 ah17_33 ⟨v17_33, rfl, hI17_33, rfl, hv17_33, hn17_33⟩
        refine WL_gon rfl rfl rfl ?_
        refine WL_op rfl (OE_call (l := [_, _]) E_journal_Journal_Add rfl rfl (l_add (ls := [lastB]) (hj20.mono (hIc17_31.trans hI17_33)) (Rows.one (BySl.mono hvc17_31 hI17_33) hv17_33) (by simp [lastB]) (by simp [frSz, lastB]; omega) (by rw [hrec20]; simp; omega))) ?_
        rintro _ I17_34 ah17_34 ⟨_, rfl, hI21, _, rfl, ρ21, he21, hj21⟩
        generalize hs21 : addJ s20 [lastB] = s21 at *
        have hrec21 : s21.recs = m ++ [lastB] := by rw [← hs21, ← hrec20]; rfl
        have hpart21 : s21.part = 0 := by rw [← hs21]; exact hpart20
        have hbase21 : s21.base = base := by rw [← hs21]; exact hbase20
        refine WL_gon rfl rfl rfl ?_
        refine WL_val rfl (PE_nei rfl rfl rfl) ?_
        refine WL_val rfl (PE_pick rfl (fun _ => rfl) (fun _ => rfl)) ?_
        refine WL_nil ?_
        refine QA_seq ?_
        refine CW_false rfl ?_
        refine CW_skip ?_
        refine QA_seq ?_
        refine CW_seq ?_
        refine CW_region (l := [_, _, _, _]) ?_
        refine WL_val rfl (PE_move rfl) ?_
        refine WL_val rfl (PE_move rfl) ?_
        refine WL_val rfl (PE_move rfl) ?_
        refine WL_op rfl (OE_call (l := [_, _, _]) E_disk_Disk_Crash rfl rfl (l_crash hj21 (by omega) mask hmask torn htorn)) ?_
        rintro _ I19_3 ah19_3 ⟨_, rfl, hI22, _, ρ22, k, n, he22, hd22, hk1, hk2, hn22, _, _⟩
        rw [hrec20] at hk1
        rw [hrec21, List.length_append, List.length_singleton] at hk2
        rw [hrec21, hbase21] at hd22
        refine WL_nil ?_
        refine QA_seq ?_
        refine CW_seq ?_
        refine CW_region (l := [_, _]) ?_
        refine WL_val rfl (PE_move rfl) ?_
        refine WL_op rfl (OE_call (l := [_]) E_disk_Disk_On rfl rfl (l_on hd22 (by omega))) ?_
        rintro _ I20_1 ah20_1 ⟨_, rfl, hI23, _, he23, hd23⟩
        refine WL_nil ?_
        refine QA_seq ?_
        refine CW_seq ?_
        refine CW_region (l := [_, _, _, _, _, _, _]) ?_
        refine WL_val rfl (PE_move rfl) ?_
        refine WL_op rfl (OE_call (l := [_]) E_journal_Open rfl rfl (l_open hd23)) ?_
        rintro _ I21_1 ah21_1 ⟨_, rfl, hI24, _, o, ρ24, s24, rfl, he24, hj24, hr24, hb24, ht24, hp24⟩
        have hlen24 : ((m ++ [lastB]).take k).length = k := by simp; omega
        have hb24 := hb24
        have hsmall24 : ∀ x ∈ s24.recs, x.length ≤ 1048576 := by
          intro x hx
          rw [hr24] at hx
          rcases List.mem_append.1 (List.mem_of_mem_take hx) with h | h
          · have := hallm x h; omega
          · rw [List.mem_singleton.1 h]; simp [lastB]
        refine WL_val rfl (PE_move rfl) ?_
        refine WL_val rfl (PE_extract rfl rfl) ?_
        refine WL_val rfl (PE_extract rfl rfl) ?_
        refine WL_val rfl (PE_assign rfl) ?_
        refine WL_val rfl (PE_assign rfl) ?_
        refine WL_nil ?_
        refine QA_seq ?_
        refine CW_seq ?_
        refine CW_seq ?_
        have hbA := hb.mono ((((((hI15.trans hI16).trans hI17).trans hI18).trans hI19).trans hI20).trans ((((hIc17_31.trans hI17_33).trans hI21).trans hI22).trans (hI23.trans hI24)))
        refine CW_drawS (l := [_, _, _, _, _, _, _, _, _, _, _, _, _, _]) 14 mixed ?_
        refine WA_take 0 rfl (by kernel_rfl) (by kernel_rfl) (by kernel_rfl) (by kernel_rfl) rfl (by kernel_rfl) rfl (IM.le.refl _) (fun _ _ h => h) (PE_move rfl) ?_
        refine WA_take 1 rfl (by kernel_rfl) (by kernel_rfl) (by kernel_rfl) (by kernel_rfl) rfl (by kernel_rfl) rfl (IM.le.refl _) (fun _ _ h => h) (PE_nei rfl rfl rfl) ?_
        refine WA_take 2 rfl (by kernel_rfl) (by kernel_rfl) (by kernel_rfl) (by kernel_rfl) rfl (by kernel_rfl) rfl (IM.le.refl _) (fun _ _ h => h) (PE_move rfl) ?_
        refine WA_takeG 3 rfl rfl rfl rfl (by kernel_rfl) (by kernel_rfl) (by kernel_rfl) (by kernel_rfl) rfl (by kernel_rfl) rfl (IM.le.refl _) (fun _ _ h => h) (PE_move rfl) ?_
        refine WA_takeG 4 rfl rfl rfl rfl (by kernel_rfl) (by kernel_rfl) (by kernel_rfl) (by kernel_rfl) rfl (by kernel_rfl) rfl (IM.le.refl _) (fun _ _ h => h) (PE_eqpn und_p_journal_Journal rfl rfl rfl) ?_
        refine WA_take 5 rfl (by kernel_rfl) (by kernel_rfl) (by kernel_rfl) (by kernel_rfl) rfl (by kernel_rfl) rfl (IM.le.refl _) (fun _ _ h => h) (PE_pick rfl (fun _ => rfl) (fun _ => rfl)) ?_
        refine WA_take 6 rfl (by kernel_rfl) (by kernel_rfl) (by kernel_rfl) (by kernel_rfl) rfl (by kernel_rfl) rfl (IM.le.refl _) (fun _ _ h => h) (PE_move rfl) ?_
        refine WA_takeG 7 rfl rfl rfl rfl (by kernel_rfl) (by kernel_rfl) (by kernel_rfl) (by kernel_rfl) rfl (by kernel_rfl) rfl (IM.le.refl _) (fun _ _ h => h) (PE_move rfl) ?_
        refine WA_takeG 10 rfl rfl rfl rfl (by kernel_rfl) (by kernel_rfl) (by kernel_rfl) (by kernel_rfl) rfl (by kernel_rfl) rfl (IM.le.refl _) (fun _ _ h => h) (PE_move rfl) ?_
        refine WA_takeG 11 rfl rfl rfl rfl (by kernel_rfl) (by kernel_rfl) (by kernel_rfl) (by kernel_rfl) rfl (by kernel_rfl) rfl (IM.le.refl _) (fun _ _ h => h) (PE_convBS (l := base) und_sl_uint8 und_uint8 und_string rfl (hbA.src _)) ?_
        refine WA_opG 8 rfl rfl rfl rfl (by kernel_rfl) (OE_call (l := [_]) E_journal_Journal_Base rfl rfl (l_base hj24)) ?_ ?_
        · rintro _ I22_8 ah22_8 ⟨v228, rfl, hI228, rfl, hb228⟩; exact ⟨hI228, fun _ _ h => h⟩
        rintro _ I22_8 ah22_8 ⟨v228, rfl, hI228, rfl, hb228⟩
        rw [hb24] at hb228
        refine WA_opG 9 rfl rfl rfl rfl (by kernel_rfl) ((OE_pe rfl (PE_convBS (l := base) und_sl_uint8 und_uint8 und_string rfl (hb228.src _)))) ?_ ?_
        · rintro _ I22_9 ah22_9 ⟨rfl, rfl, rfl⟩; exact ⟨hI228, fun _ _ h => h⟩
        rintro _ I22_9 ah22_9 ⟨rfl, rfl, rfl⟩
        refine WA_takeG 12 rfl rfl rfl rfl (by kernel_rfl) (by kernel_rfl) (by kernel_rfl) (by kernel_rfl) rfl (by kernel_rfl) rfl (hI228) (fun _ _ h => h) (PE_nes (b := false) rfl rfl (by simp)) ?_
        refine WA_take 13 rfl (by kernel_rfl) (by kernel_rfl) (by kernel_rfl) (by kernel_rfl) rfl (by kernel_rfl) rfl (hI228) (fun _ _ h => h) (PE_pick rfl (fun _ => rfl) (fun _ => rfl)) ?_
        refine WA_done (by kernel_rfl) ?_
        refine QA_seq ?_
        refine CW_false rfl ?_
        refine CW_skip ?_
        refine QA_seq ?_
        refine CW_seq ?_
        refine CW_region (l := [_, _, _, _]) ?_
        refine WL_val rfl (PE_move rfl) ?_
        refine WL_op rfl (OE_call (l := [_]) E_journal_Journal_All rfl rfl (l_all (hj24.mono hI228) hsmall24)) ?_
        rintro _ I24_1 ah24_1 ⟨v241, rfl, hI241, rfl, hr241⟩
        rw [hr24] at hr241
        obtain ⟨vs241, hs241, _⟩ := hr241
        obtain ⟨a241, c241, rfl, _⟩ := hs241.form
        rw [hlen24]
        refine WL_val rfl (PE_len und_sl_sl_uint8 rfl) ?_
        refine WL_val rfl (PE_assign rfl) ?_
        refine WL_nil ?_
        refine QA_seq ?_
        refine CW_seq ?_
        have hJ24 := ((((((hI15.trans hI16).trans hI17).trans hI18).trans hI19).trans hI20).trans ((((hIc17_31.trans hI17_33).trans hI21).trans hI22).trans (hI23.trans hI24))).trans (hI228.trans hI241)
        have hml : mvs.length = m.length := by have := hms.len; omega
        refine CW_region (l := [_, _, _, _, _, _, _, _]) ?_
        refine WL_op rfl (OE_litO (l := []) (vs := []) und_sl_sl_uint8 te_sl_uint8 rfl rfl rfl (by simp [Value.cells]) (by decide) rfl rfl) ?_
        rintro _ I25_0 ah25_0 ⟨v25_0, rfl, hI25_0, hv25_0, hn25_0⟩
        obtain ⟨e0a, e0c, rfl, _⟩ := SlI.form hv25_0.sl
        refine WL_val rfl (PE_move rfl) ?_
        refine WL_op rfl (OE_append (n := 0) (m := m.length) (vs := []) (us := mvs) und_sl_sl_uint8 ⟨_, und_sl_sl_uint8⟩ te_sl_uint8 rfl rfl rfl hv25_0 ((hms.mono (hJ24.trans hI25_0)).src _) (rows_one hmr hml) (by decide) (by omega) (by omega)) ?_
        rintro _ I25_2 ah25_2 ⟨v25_2, rfl, hI25_2, hv25_2, hn25_2⟩
        refine WL_op rfl (OE_lit (l := [_, _, _, _]) (vs := [_, _, _, _]) und_sl_uint8 te_uint8 rfl rfl rfl (by simp [Value.cells]) (by decide) rfl) ?_
        rintro _ I25_3 ah25_3 ⟨b25_3, rfl, rfl, rfl, hb25_3, hw25_3⟩
        refine WL_op rfl (OE_convLL und_sl_uint8 und_uint8 rfl rfl (AH.set_same _ _ _) rfl) ?_
        rintro _ I25_4 ah25_4 ⟨rfl, hIc25_3, hvc25_3, rfl⟩
        rw [AH.del_set, AH.del_none _ hb25_3]
        refine WL_op rfl (OE_litI (l := [_]) (vs := [_]) und_sl_sl_uint8 te_sl_uint8 rfl rfl rfl (by simp [Value.cells]) (by decide) rfl rfl) ?_
        rintro _ I25_5 ah25_5 ⟨v25_5, rfl, hI25_5, rfl, hv25_5, hn25_5⟩
        refine WL_op rfl (OE_append (n := 0 + m.length) (m := 1) (vs := [] ++ mvs) (us := [.slice (some ⟨b25_3, 0, none⟩) 4 4]) und_sl_sl_uint8 ⟨_, und_sl_sl_uint8⟩ te_sl_uint8 rfl rfl rfl (Own.mono hv25_2 (hIc25_3.trans hI25_5)) (hv25_5.src _) (by simp [Value.oneCell']) (by decide) (by omega) (by omega)) ?_
        rintro _ I25_6 ah25_6 ⟨v25_6, rfl, hI25_6, hv25_6, hn25_6⟩
        obtain ⟨ta, tc, rfl, htc, _⟩ := SlI.form hv25_6.sl
        have hJ25 := (((hI25_0.trans hI25_2).trans hIc25_3).trans hI25_5).trans hI25_6
        have hrows25 : ByRows I25_6 (.slice ta (0 + m.length + 1) tc) (m ++ [lastB]) := by
          have hr : Rows I25_6 (mvs ++ [.slice (some ⟨b25_3, 0, none⟩) 4 4]) (m ++ [lastB]) := Rows.snoc ⟨hml, rows_mono hmr (hJ24.trans hJ25)⟩ (BySl.mono hvc25_3 (hI25_5.trans hI25_6))
          refine Rows.by hr ?_
          have := hv25_6.sl
          rw [show (m ++ [lastB]).length = 0 + m.length + 1 by simp]
          exact this
        refine WL_forget (Own.base hv25_6) ?_
        refine WL_val rfl (PE_assign rfl) ?_
        refine WL_nil ?_
        refine QA_seq ?_
        refine CW_seq ?_
        have hkc : k = m.length ∨ k = m.length + 1 := by omega
        have hrk := ByRows.take hrows25 (j := k) (by simp; omega)
        have hjf := (hj24.mono (hI228.trans hI241)).mono hJ25
        rcases hkc with hk0 | hk0
        · skip
          refine CW_drawS (l := [_, _, _, _, _, _, _, _, _, _, _, _, _, _, _, _, _, _, _, _]) 20 mixed ?_
          refine WA_take 0 rfl (by kernel_rfl) (by kernel_rfl) (by kernel_rfl) (by kernel_rfl) rfl (by kernel_rfl) rfl (IM.le.refl _) (fun _ _ h => h) (PE_move rfl) ?_
          refine WA_take 1 rfl (by kernel_rfl) (by kernel_rfl) (by kernel_rfl) (by kernel_rfl) rfl (by kernel_rfl) rfl (IM.le.refl _) (fun _ _ h => h) (PE_move rfl) ?_
          refine WA_take 2 rfl (by kernel_rfl) (by kernel_rfl) (by kernel_rfl) (by kernel_rfl) rfl (by kernel_rfl) rfl (IM.le.refl _) (fun _ _ h => h) (PE_len und_sl_sl_uint8 (by rw [← hmv]; rfl)) ?_
          refine WA_take 3 rfl (by kernel_rfl) (by kernel_rfl) (by kernel_rfl) (by kernel_rfl) rfl (by kernel_rfl) rfl (IM.le.refl _) (fun _ _ h => h) (PE_eqi (b := true) rfl rfl (by simp [hk0])) ?_
          refine WA_take 4 rfl (by kernel_rfl) (by kernel_rfl) (by kernel_rfl) (by kernel_rfl) rfl (by kernel_rfl) rfl (IM.le.refl _) (fun _ _ h => h) (PE_move rfl) ?_
          refine WA_skip 5 rfl rfl rfl rfl (fun h => by cases h) (by kernel_rfl) (by kernel_rfl) (by kernel_rfl) (by kernel_rfl) rfl (by kernel_rfl) rfl (IM.le.refl _) (fun _ _ h => h) ?_
          refine WA_skip 6 rfl rfl rfl rfl (fun h => by cases h) (by kernel_rfl) (by kernel_rfl) (by kernel_rfl) (by kernel_rfl) rfl (by kernel_rfl) rfl (IM.le.refl _) (fun _ _ h => h) ?_
          refine WA_skip 7 rfl rfl rfl rfl (fun h => by cases h) (by kernel_rfl) (by kernel_rfl) (by kernel_rfl) (by kernel_rfl) rfl (by kernel_rfl) rfl (IM.le.refl _) (fun _ _ h => h) ?_
          refine WA_skip 8 rfl rfl rfl rfl (fun h => by cases h) (by kernel_rfl) (by kernel_rfl) (by kernel_rfl) (by kernel_rfl) rfl (by kernel_rfl) rfl (IM.le.refl _) (fun _ _ h => h) ?_
          refine WA_skip 9 rfl rfl rfl rfl (fun h => by cases h) (by kernel_rfl) (by kernel_rfl) (by kernel_rfl) (by kernel_rfl) rfl (by kernel_rfl) rfl (IM.le.refl _) (fun _ _ h => h) ?_
          refine WA_take 10 rfl (by kernel_rfl) (by kernel_rfl) (by kernel_rfl) (by kernel_rfl) rfl (by kernel_rfl) rfl (IM.le.refl _) (fun _ _ h => h) (PE_pick rfl (fun _ => rfl) (fun _ => rfl)) ?_
          refine WA_take 11 rfl (by kernel_rfl) (by kernel_rfl) (by kernel_rfl) (by kernel_rfl) rfl (by kernel_rfl) rfl (IM.le.refl _) (fun _ _ h => h) (PE_move rfl) ?_
          refine WA_takeG 12 rfl rfl rfl rfl (by kernel_rfl) (by kernel_rfl) (by kernel_rfl) (by kernel_rfl) rfl (by kernel_rfl) rfl (IM.le.refl _) (fun _ _ h => h) (PE_move rfl) ?_
          refine WA_takeG 14 rfl rfl rfl rfl (by kernel_rfl) (by kernel_rfl) (by kernel_rfl) (by kernel_rfl) rfl (by kernel_rfl) rfl (IM.le.refl _) (fun _ _ h => h) (PE_move rfl) ?_
          refine WA_takeG 15 rfl rfl rfl rfl (by kernel_rfl) (by kernel_rfl) (by kernel_rfl) (by kernel_rfl) rfl (by kernel_rfl) rfl (IM.le.refl _) (fun _ _ h => h) (PE_move rfl) ?_
          refine WA_takeG 16 rfl rfl rfl rfl (by kernel_rfl) (by kernel_rfl) (by kernel_rfl) (by kernel_rfl) rfl (by kernel_rfl) rfl (IM.le.refl _) (fun _ _ h => h) (PE_sliceTo (h := k) und_sl_sl_uint8 te_sl_uint8.size rfl rfl rfl (by omega)) ?_
          refine WA_opG 13 rfl rfl rfl rfl (by kernel_rfl) (OE_call (l := [_]) E_journal_Journal_All rfl rfl (l_all hjf hsmall24)) ?_ ?_
          · rintro _ I26_13 ah26_13 ⟨vA, rfl, hIA, rfl, hrA⟩; exact ⟨hIA, fun _ _ h => h⟩
          rintro _ I26_13 ah26_13 ⟨vA, rfl, hIA, rfl, hrA⟩
          rw [hr24] at hrA
          refine WA_opG 17 rfl rfl rfl rfl (by kernel_rfl) (OE_call (l := [_, _]) E_bandboxlaw14_same rfl rfl (same_spec _ _ _ _ _ ((m ++ [lastB]).take k) ((m ++ [lastB]).take k) hrA (hrk.mono hIA) (by rw [hlen24]; omega) (by rw [hlen24]; omega))) ?_ ?_
          · rintro _ I26_17 ah26_17 ⟨_, rfl, _, rfl, rfl, rfl⟩; exact ⟨hIA, fun _ _ h => h⟩
          rintro _ I26_17 ah26_17 ⟨_, rfl, _, rfl, rfl, rfl⟩
          rw [decide_eq_true rfl]
          refine WA_take 18 rfl (by kernel_rfl) (by kernel_rfl) (by kernel_rfl) (by kernel_rfl) rfl (by kernel_rfl) rfl (hIA) (fun _ _ h => h) (PE_pick rfl (fun _ => rfl) (fun _ => rfl)) ?_
          refine WA_take 19 rfl (by kernel_rfl) (by kernel_rfl) (by kernel_rfl) (by kernel_rfl) rfl (by kernel_rfl) rfl (hIA) (fun _ _ h => h) (PE_assign rfl) ?_
          refine WA_done (by kernel_rfl) ?_
          refine QA_seq ?_
          refine CW_ret ?_
          refine QA_return (rs := [_]) rfl rfl (hI1.trans (((hJ24.trans hJ25)).trans hIA)) (ah) (out_sub (S := ofJ) ((he15.mono (fun _ h => h.elim)).trans (he16.trans (he17.trans (he18.trans (he19.trans (he20.trans (he21.trans ((he22.mono ofD_J).trans ((he23.mono ofD_J).trans he24))))))))) (by simp [ofJ])) ?_
          exact ⟨rfl, rfl⟩
        · skip
          refine CW_drawS (l := [_, _, _, _, _, _, _, _, _, _, _, _, _, _, _, _, _, _, _, _]) 20 mixed ?_
          refine WA_take 0 rfl (by kernel_rfl) (by kernel_rfl) (by kernel_rfl) (by kernel_rfl) rfl (by kernel_rfl) rfl (IM.le.refl _) (fun _ _ h => h) (PE_move rfl) ?_
          refine WA_take 1 rfl (by kernel_rfl) (by kernel_rfl) (by kernel_rfl) (by kernel_rfl) rfl (by kernel_rfl) rfl (IM.le.refl _) (fun _ _ h => h) (PE_move rfl) ?_
          refine WA_take 2 rfl (by kernel_rfl) (by kernel_rfl) (by kernel_rfl) (by kernel_rfl) rfl (by kernel_rfl) rfl (IM.le.refl _) (fun _ _ h => h) (PE_len und_sl_sl_uint8 (by rw [← hmv]; rfl)) ?_
          refine WA_take 3 rfl (by kernel_rfl) (by kernel_rfl) (by kernel_rfl) (by kernel_rfl) rfl (by kernel_rfl) rfl (IM.le.refl _) (fun _ _ h => h) (PE_eqi (b := false) rfl rfl (by simp [hk0]; omega)) ?_
          refine WA_take 4 rfl (by kernel_rfl) (by kernel_rfl) (by kernel_rfl) (by kernel_rfl) rfl (by kernel_rfl) rfl (IM.le.refl _) (fun _ _ h => h) (PE_move rfl) ?_
          refine WA_takeG 5 rfl rfl rfl rfl (by kernel_rfl) (by kernel_rfl) (by kernel_rfl) (by kernel_rfl) rfl (by kernel_rfl) rfl (IM.le.refl _) (fun _ _ h => h) (PE_move rfl) ?_
          refine WA_takeG 6 rfl rfl rfl rfl (by kernel_rfl) (by kernel_rfl) (by kernel_rfl) (by kernel_rfl) rfl (by kernel_rfl) rfl (IM.le.refl _) (fun _ _ h => h) (PE_move rfl) ?_
          refine WA_takeG 7 rfl rfl rfl rfl (by kernel_rfl) (by kernel_rfl) (by kernel_rfl) (by kernel_rfl) rfl (by kernel_rfl) rfl (IM.le.refl _) (fun _ _ h => h) (PE_len und_sl_sl_uint8 (by rw [← hmv]; rfl)) ?_
          refine WA_takeG 8 rfl rfl rfl rfl (by kernel_rfl) (by kernel_rfl) (by kernel_rfl) (by kernel_rfl) rfl (by kernel_rfl) rfl (IM.le.refl _) (fun _ _ h => h) (PE_add (r := ((m.length + 1 : Nat) : Int)) rfl rfl (w64e (by push_cast; rfl) (by omega) (by omega))) ?_
          refine WA_takeG 9 rfl rfl rfl rfl (by kernel_rfl) (by kernel_rfl) (by kernel_rfl) (by kernel_rfl) rfl (by kernel_rfl) rfl (IM.le.refl _) (fun _ _ h => h) (PE_eqi (b := true) rfl rfl (by simp [hk0])) ?_
          refine WA_take 10 rfl (by kernel_rfl) (by kernel_rfl) (by kernel_rfl) (by kernel_rfl) rfl (by kernel_rfl) rfl (IM.le.refl _) (fun _ _ h => h) (PE_pick rfl (fun _ => rfl) (fun _ => rfl)) ?_
          refine WA_take 11 rfl (by kernel_rfl) (by kernel_rfl) (by kernel_rfl) (by kernel_rfl) rfl (by kernel_rfl) rfl (IM.le.refl _) (fun _ _ h => h) (PE_move rfl) ?_
          refine WA_takeG 12 rfl rfl rfl rfl (by kernel_rfl) (by kernel_rfl) (by kernel_rfl) (by kernel_rfl) rfl (by kernel_rfl) rfl (IM.le.refl _) (fun _ _ h => h) (PE_move rfl) ?_
          refine WA_takeG 14 rfl rfl rfl rfl (by kernel_rfl) (by kernel_rfl) (by kernel_rfl) (by kernel_rfl) rfl (by kernel_rfl) rfl (IM.le.refl _) (fun _ _ h => h) (PE_move rfl) ?_
          refine WA_takeG 15 rfl rfl rfl rfl (by kernel_rfl) (by kernel_rfl) (by kernel_rfl) (by kernel_rfl) rfl (by kernel_rfl) rfl (IM.le.refl _) (fun _ _ h => h) (PE_move rfl) ?_
          refine WA_takeG 16 rfl rfl rfl rfl (by kernel_rfl) (by kernel_rfl) (by kernel_rfl) (by kernel_rfl) rfl (by kernel_rfl) rfl (IM.le.refl _) (fun _ _ h => h) (PE_sliceTo (h := k) und_sl_sl_uint8 te_sl_uint8.size rfl rfl rfl (by omega)) ?_
          refine WA_opG 13 rfl rfl rfl rfl (by kernel_rfl) (OE_call (l := [_]) E_journal_Journal_All rfl rfl (l_all hjf hsmall24)) ?_ ?_
          · rintro _ I26_13 ah26_13 ⟨vA, rfl, hIA, rfl, hrA⟩; exact ⟨hIA, fun _ _ h => h⟩
          rintro _ I26_13 ah26_13 ⟨vA, rfl, hIA, rfl, hrA⟩
          rw [hr24] at hrA
          refine WA_opG 17 rfl rfl rfl rfl (by kernel_rfl) (OE_call (l := [_, _]) E_bandboxlaw14_same rfl rfl (same_spec _ _ _ _ _ ((m ++ [lastB]).take k) ((m ++ [lastB]).take k) hrA (hrk.mono hIA) (by rw [hlen24]; omega) (by rw [hlen24]; omega))) ?_ ?_
          · rintro _ I26_17 ah26_17 ⟨_, rfl, _, rfl, rfl, rfl⟩; exact ⟨hIA, fun _ _ h => h⟩
          rintro _ I26_17 ah26_17 ⟨_, rfl, _, rfl, rfl, rfl⟩
          rw [decide_eq_true rfl]
          refine WA_take 18 rfl (by kernel_rfl) (by kernel_rfl) (by kernel_rfl) (by kernel_rfl) rfl (by kernel_rfl) rfl (hIA) (fun _ _ h => h) (PE_pick rfl (fun _ => rfl) (fun _ => rfl)) ?_
          refine WA_take 19 rfl (by kernel_rfl) (by kernel_rfl) (by kernel_rfl) (by kernel_rfl) rfl (by kernel_rfl) rfl (hIA) (fun _ _ h => h) (PE_assign rfl) ?_
          refine WA_done (by kernel_rfl) ?_
          refine QA_seq ?_
          refine CW_ret ?_
          refine QA_return (rs := [_]) rfl rfl (hI1.trans (((hJ24.trans hJ25)).trans hIA)) (ah) (out_sub (S := ofJ) ((he15.mono (fun _ h => h.elim)).trans (he16.trans (he17.trans (he18.trans (he19.trans (he20.trans (he21.trans ((he22.mono ofD_J).trans ((he23.mono ofD_J).trans he24))))))))) (by simp [ofJ])) ?_
          exact ⟨rfl, rfl⟩

end Go.Proofs.YthdpebagkfloaaaDoor

