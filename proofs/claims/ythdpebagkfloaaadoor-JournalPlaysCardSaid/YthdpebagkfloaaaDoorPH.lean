/- Numbers in base 36; a part's name. -/
import Derived.Test.YthdpebagkfloaaaDoorPG
namespace Go.Proofs.YthdpebagkfloaaaDoor
open Go Go.RowKit SL
set_option linter.unusedVariables false
set_option linter.unusedSimpArgs false
set_option maxRecDepth 100000
def digs : ByteArray := ⟨#[48, 49, 50, 51, 52, 53, 54, 55, 56, 57, 97, 98, 99, 100, 101, 102, 103, 104, 105, 106, 107, 108, 109, 110, 111, 112, 113, 114, 115, 116, 117, 118, 119, 120, 121, 122]⟩
def dig (k : Nat) : UInt8 := if h : k < 36 then digs[k]'h else 0
def fmt36 (u : Nat) : List UInt8 := if u < 36 then [dig u] else fmt36 (u / 36) ++ [dig (u % 36)]
termination_by u
decreasing_by omega
theorem fmt36_lo {u : Nat} (h : u < 36) : fmt36 u = [dig u] := by rw [fmt36, if_pos h]
theorem fmt36_hi {u : Nat} (h : ¬ u < 36) : fmt36 u = fmt36 (u / 36) ++ [dig (u % 36)] := by rw [fmt36, if_neg h]
theorem PE_dig {C : Cx} {env : Env} {I : IM} {ah : AH} {d ty t : Nat} {ps : String} {af : Array Edge} {y : Operand} {K : IntKind} {u : Nat} (ht : C.P.underlying t = some .string) (hy : opv env y = some (.int K (u : Int))) (hu : u < 36) :
    PE C env I ah ⟨some d, .index t (.const (.string digs)) y, ty, ps, af, none⟩ (bv (dig u)) := by
  have := PE_indexS (C := C) (env := env) (I := I) (ah := ah) (d := d) (ty := ty) (ps := ps) (af := af) (x := .const (.string digs)) (s := digs) (i := u) ht rfl hy rfl hu
  have e : bv (dig u) = .int .u8 ((digs[u]'hu).toNat : Int) := by unfold dig; rw [dif_pos hu]; rfl
  rw [e]; exact this
theorem cells_dig (j : Nat) (ds : List UInt8) (x : UInt8) (hj : 1 ≤ j) : ((List.replicate (52 + j) 0 ++ ds).map bv).set (52 + (j - 1)) (bv x) = (List.replicate (52 + (j - 1)) 0 ++ x :: ds).map bv := by
  rw [← List.map_set]; congr 1
  rw [show 52 + j = (52 + (j - 1)) + 1 by omega, List.replicate_succ', List.append_assoc, List.set_append_right _ _ (by simp)]
  simp

theorem pow36_spec (w0 : World) (I : IM) (ah : AH) :
    SC P w0 n_internal_strconv_isPowerOfTwo [.int .i64 36] I ah (fun v I' ah' => I = I' ∧ ah = ah' ∧ v = .bool false) := by
  refine SC_enter fn_internal_strconv_isPowerOfTwo rfl rfl (Nat.le_of_ble_eq_true rfl) ?_
  refine CW_seq ?_
  refine CW_region (l := [_]) ?_
  refine WL_val rfl (PE_assign rfl) ?_
  refine WL_nil ?_
  refine QA_seq ?_
  refine CW_seq ?_
  refine CW_region (l := [_, _, _, _, _, _]) ?_
  refine WL_val rfl (PE_move rfl) ?_
  refine WL_val rfl (PE_move rfl) ?_
  refine WL_val rfl (PE_sub (r := 35) rfl rfl rfl) ?_
  refine WL_val rfl (PE_bits (r := 32) rfl rfl (.inl rfl) rfl) ?_
  refine WL_val rfl (PE_eqi (b := false) rfl rfl rfl) ?_
  refine WL_val rfl (PE_assign rfl) ?_
  refine WL_nil ?_
  refine QA_seq ?_
  refine CW_ret ?_
  refine QA_return (rs := [_]) rfl rfl (IM.le.refl _) (_) (fun _ _ h => h) ?_
  exact ⟨rfl, rfl, rfl⟩

theorem bits_spec (w0 : World) (I : IM) (ah : AH) (u0 : Nat) (hu0 : u0 < 36 ^ 12) :
    SC P w0 n_internal_strconv_formatBits [.slice none 0 0, .int .u64 (u0 : Nat), .int .i64 36, .bool false, .bool false] I ah (fun v I' ah' => I = I' ∧ ah = ah' ∧ v = .tuple #[.slice none 0 0, .string ⟨(fmt36 u0).toArray⟩]) := by
  refine SC_enter fn_internal_strconv_formatBits rfl rfl (Nat.le_of_ble_eq_true rfl) ?_
  refine CW_seq ?_
  refine CW_region (l := [_, _]) ?_
  refine WL_val rfl (PE_assign rfl) ?_
  refine WL_val rfl (PE_assign rfl) ?_
  refine WL_nil ?_
  refine QA_seq ?_
  refine CW_seq ?_
  refine CW_seq ?_
  refine CW_region (l := [_, _, _, _, _, _, _, _, _, _]) ?_
  refine WL_val rfl (PE_move rfl) ?_
  refine WL_val rfl (PE_lss (b := false) rfl rfl rfl) ?_
  refine WL_val rfl (PE_move rfl) ?_
  refine WL_gon rfl rfl rfl ?_
  refine WL_val rfl (PE_move rfl) ?_
  refine WL_gon rfl rfl rfl ?_
  refine WL_val rfl (PE_eqi (b := false) rfl rfl rfl) ?_
  refine WL_val rfl (PE_pick rfl (fun _ => rfl) (fun _ => rfl)) ?_
  refine WL_val rfl (PE_move rfl) ?_
  refine WL_gon rfl rfl rfl ?_
  refine WL_val rfl (PE_move rfl) ?_
  refine WL_gon rfl rfl rfl ?_
  refine WL_val rfl (PE_gtr (b := false) rfl rfl rfl) ?_
  refine WL_val rfl (PE_pick rfl (fun _ => rfl) (fun _ => rfl)) ?_
  refine WL_nil ?_
  refine QA_seq ?_
  refine CW_false rfl ?_
  refine CW_skip ?_
  refine QA_seq ?_
  refine CW_seq ?_
  refine CW_region (l := [_]) ?_
  refine WL_op rfl (OE_alloc rfl te_a65_uint8.zero) ?_
  rintro _ I3_0 ah3_0 ⟨b3_0, rfl, rfl, rfl, hb3_0, hw3_0⟩
  refine WL_nil ?_
  refine QA_seq ?_
  refine CW_seq ?_
  refine CW_region (l := [_]) ?_
  refine WL_val rfl (PE_assign rfl) ?_
  refine WL_nil ?_
  refine QA_seq ?_
  refine CW_seq ?_
  refine CW_seq ?_
  refine CW_region (l := [_]) ?_
  refine WL_val rfl (PE_move rfl) ?_
  refine WL_nil ?_
  refine QA_seq ?_
  refine CW_false rfl ?_
  refine CW_skip ?_
  refine QA_seq ?_
  refine CW_seq ?_
  refine CW_seq ?_
  refine CW_region (l := [_, _]) ?_
  refine WL_val rfl (PE_move rfl) ?_
  refine WL_op rfl (OE_call (l := [_]) E_internal_strconv_isPowerOfTwo rfl rfl (pow36_spec _ _ _)) ?_
  rintro _ I7_1 ah7_1 ⟨_, rfl, _, rfl, rfl, rfl⟩
  refine WL_nil ?_
  refine QA_seq ?_
  refine CW_false rfl ?_
  refine CW_seq ?_
  refine CW_region (l := [_, _, _]) ?_
  refine WL_val rfl (PE_move rfl) ?_
  refine WL_val rfl (PE_convI (r := 36) und_int und_uint64 rfl rfl) ?_
  refine WL_val rfl (PE_assign rfl) ?_
  refine WL_nil ?_
  refine QA_seq ?_
  refine CW_seq ?_
  refine CW_block ?_
  refine CW_loop (fun k e I' A' => ∃ u j ds, e = [(1, .int .u64 (u : Nat)), (12, .pointer (some ⟨b3_0, 0, none⟩)), (13, .int .i64 ((52 + j : Nat) : Int)), (17, .int .u64 36), (3, .bool false), (4, .bool false), (10, .slice none 0 0)] ∧ I = I' ∧ k = j ∧ 1 ≤ j ∧ j ≤ 13 ∧ u < 36 ^ (j - 1) ∧ fmt36 u0 = fmt36 u ++ ds ∧ ds.length + j = 13 ∧ ah.set b3_0 (.cells ((List.replicate (52 + j) 0 ++ ds).map bv)) = A') (13) (e0 := [(1, .int .u64 (u0 : Nat)), (12, .pointer (some ⟨b3_0, 0, none⟩)), (13, .int .i64 ((52 + 13 : Nat) : Int)), (17, .int .u64 36), (3, .bool false), (4, .bool false), (10, .slice none 0 0)]) (⟨u0, 13, [], rfl, rfl, rfl, by omega, by omega, hu0, by simp, rfl, by simp [bv, Value.cells]⟩) (by repeat (first | exact .nil | refine .cons rfl ?_)) ?_
  rintro k e I A ⟨u, j, ds, rfl, rfl, rfl, hj1, hj2, hu, hfmt, hds, rfl⟩
  have hu64 : u < 18446744073709551616 := Nat.lt_of_lt_of_le hu (Nat.le_trans (Nat.pow_le_pow_right (by omega) (show k - 1 ≤ 12 by omega)) (by decide))
  refine CW_seq ?_
  refine CW_seq ?_
  refine CW_region (l := [_, _, _]) ?_
  refine WL_val rfl (PE_move rfl) ?_
  refine WL_val rfl (PE_move rfl) ?_
  refine WL_val rfl (PE_geq rfl rfl rfl) ?_
  refine WL_nil ?_
  refine QA_seq ?_
  refine CW_cond rfl (fun c4 => ?_) (fun c4 => ?_)
  · have h36 : 36 ≤ u := by simp at c4; omega
    have hj3 : 2 ≤ k := by
      rcases Nat.lt_or_ge k 2 with h | h
      · have : k - 1 = 0 := by omega
        rw [this] at hu; simp at hu; omega
      · exact h
    have hq : u / 36 < 36 ^ (k - 1 - 1) := by
      have : 36 ^ (k - 1) = 36 ^ (k - 1 - 1) * 36 := by rw [← Nat.pow_succ]; congr 1; omega
      rw [this] at hu
      exact (Nat.div_lt_iff_lt_mul (by omega)).2 hu
    refine CW_skip ?_
    refine QA_seq ?_
    refine CW_block ?_
    refine CW_seq ?_
    refine CW_region (l := [_, _, _]) ?_
    refine WL_val rfl (PE_move rfl) ?_
    refine WL_val rfl (PE_sub (r := ((52 + (k - 1) : Nat) : Int)) rfl rfl (w64e (by omega) (by omega) (by omega))) ?_
    refine WL_val rfl (PE_assign rfl) ?_
    refine WL_nil ?_
    refine QA_seq ?_
    refine CW_seq ?_
    refine CW_region (l := [_, _, _, _]) ?_
    refine WL_val rfl (PE_move rfl) ?_
    refine WL_val rfl (PE_move rfl) ?_
    refine WL_val rfl (PE_quo (r := ((u / 36 : Nat) : Int)) rfl rfl (by decide) (by show IntKind.u64.wrap ((u / 36 : Nat) : Int) = _; exact wu64 (by omega) (by omega))) ?_
    refine WL_val rfl (PE_assign rfl) ?_
    refine WL_nil ?_
    refine QA_seq ?_
    refine CW_seq ?_
    refine CW_region (l := [_, _, _, _, _, _, _, _, _]) ?_
    refine WL_val rfl (PE_move rfl) ?_
    refine WL_val rfl (PE_move rfl) ?_
    refine WL_val rfl (PE_move rfl) ?_
    refine WL_val rfl (PE_move rfl) ?_
    refine WL_val rfl (PE_mul (r := ((u / 36 * 36 : Nat) : Int)) rfl rfl (by rw [wu64 (by omega) (by omega)]; push_cast; rfl)) ?_
    refine WL_val rfl (PE_sub (r := ((u % 36 : Nat) : Int)) rfl rfl (by rw [wu64 (by omega) (by omega)]; omega)) ?_
    refine WL_val rfl (PE_dig (u := u % 36) und_string rfl (by omega)) ?_
    refine WL_val rfl (PE_ixA0 (i := 52 + (k - 1)) und_a65_uint8 te_uint8.size rfl rfl rfl (by omega)) ?_
    refine WL_op rfl (OE_store tc_uint8 rfl rfl rfl (AH.set_same _ _ _) (by simp; omega)) ?_
    rintro _ I21_8 ah21_8 ⟨rfl, rfl, rfl⟩
    refine WL_nil ?_
    refine QA_seq ?_
    refine CW_region (l := [_, _]) ?_
    refine WL_val rfl (PE_move rfl) ?_
    refine WL_val rfl (PE_assign rfl) ?_
    refine WL_nil ?_
    refine QA_block_normal ?_
    refine QA_round (k - 1) _ (by omega) ⟨u / 36, k - 1, dig (u % 36) :: ds, rfl, rfl, rfl, by omega, by omega, hq, by rw [hfmt, fmt36_hi (by omega)]; simp, by simp; omega, by rw [AH.set_set]; congr 2; exact (cells_dig k ds _ hj1).symm⟩ (by repeat (first | exact .nil | refine .cons rfl ?_))
  · have h36 : u < 36 := by simp at c4; omega
    refine CW_exit ?_
    refine QA_then_exit ?_
    refine QA_then_exit ?_
    refine QA_block_here ?_
    refine QA_seq ?_
    refine CW_seq ?_
    refine CW_region (l := [_, _, _]) ?_
    refine WL_val rfl (PE_move rfl) ?_
    refine WL_val rfl (PE_sub (r := ((52 + (k - 1) : Nat) : Int)) rfl rfl (w64e (by omega) (by omega) (by omega))) ?_
    refine WL_val rfl (PE_assign rfl) ?_
    refine WL_nil ?_
    refine QA_seq ?_
    refine CW_region (l := [_, _, _, _, _]) ?_
    refine WL_val rfl (PE_move rfl) ?_
    refine WL_val rfl (PE_move rfl) ?_
    refine WL_val rfl (PE_dig (u := u) und_string rfl h36) ?_
    refine WL_val rfl (PE_ixA0 (i := 52 + (k - 1)) und_a65_uint8 te_uint8.size rfl rfl rfl (by omega)) ?_
    refine WL_op rfl (OE_store tc_uint8 rfl rfl rfl (AH.set_same _ _ _) (by simp; omega)) ?_
    rintro _ I24_4 ah24_4 ⟨rfl, rfl, rfl⟩
    rw [AH.set_set, cells_dig k ds _ hj1, show dig u :: ds = fmt36 u0 by rw [hfmt, fmt36_lo h36]; rfl]
    have hfl : (fmt36 u0).length = 13 - (k - 1) := by rw [hfmt, fmt36_lo h36]; simp; omega
    refine WL_nil ?_
    refine QA_seq ?_
    refine CW_seq ?_
    refine CW_seq ?_
    refine CW_region (l := [_]) ?_
    refine WL_val rfl (PE_move rfl) ?_
    refine WL_nil ?_
    refine QA_seq ?_
    refine CW_false rfl ?_
    refine CW_skip ?_
    refine QA_seq ?_
    refine CW_seq ?_
    refine CW_seq ?_
    refine CW_region (l := [_]) ?_
    refine WL_val rfl (PE_move rfl) ?_
    refine WL_nil ?_
    refine QA_seq ?_
    refine CW_false rfl ?_
    refine CW_skip ?_
    refine QA_seq ?_
    refine CW_seq ?_
    refine CW_region (l := [_, _, _, _]) ?_
    refine WL_val rfl (PE_move rfl) ?_
    refine WL_val rfl (PE_arrFrom (l := 52 + (k - 1)) und_a65_uint8 te_uint8.size rfl rfl rfl (by omega)) ?_
    refine WL_val rfl (PE_convBS (l := fmt36 u0) und_sl_uint8 und_uint8 und_string rfl (.inr ⟨b3_0, 0 + (52 + (k - 1)) * 1, _, by rw [hfl, show 65 - (52 + (k - 1)) = 13 - (k - 1) by omega], by omega, by simp, Cells.ownAt (AH.set_same _ _ _) (by simp; rw [List.take_of_length_le]; simp [hfl])⟩)) ?_
    refine WL_val rfl (PE_assign rfl) ?_
    refine WL_nil ?_
    refine QA_seq ?_
    refine CW_ret ?_
    refine QA_return (rs := [_, _]) rfl rfl (IM.le.refl _) (_) (AH.keep_set (fun _ _ h => h) hb3_0) ?_
    exact ⟨rfl, rfl, rfl⟩

theorem ifu_spec (w0 : World) (I : IM) (ah : AH) (u : Nat) (hu : u < 36 ^ 12) :
    SC P w0 n_internal_strconv_FormatUint [.int .u64 (u : Nat), .int .i64 36] I ah (fun v I' ah' => I = I' ∧ ah = ah' ∧ v = .string ⟨(fmt36 u).toArray⟩) := by
  refine SC_enter fn_internal_strconv_FormatUint rfl rfl (Nat.le_of_ble_eq_true rfl) ?_
  refine CW_seq ?_
  refine CW_region (l := [_]) ?_
  refine WL_val rfl (PE_assign rfl) ?_
  refine WL_nil ?_
  refine QA_seq ?_
  refine CW_seq ?_
  refine CW_seq ?_
  refine CW_region (l := [_, _]) ?_
  refine WL_val rfl (PE_move rfl) ?_
  refine WL_val rfl (PE_eqi (b := false) rfl rfl rfl) ?_
  refine WL_nil ?_
  refine QA_seq ?_
  refine CW_false rfl ?_
  refine CW_skip ?_
  refine QA_seq ?_
  refine CW_seq ?_
  refine CW_region (l := [_, _, _, _, _, _, _, _]) ?_
  refine WL_val rfl (PE_move rfl) ?_
  refine WL_val rfl (PE_move rfl) ?_
  refine WL_op rfl (OE_call (l := [_, _, _, _, _]) E_internal_strconv_formatBits rfl rfl (bits_spec _ _ _ u hu)) ?_
  rintro _ I8_2 ah8_2 ⟨_, rfl, _, rfl, rfl, rfl⟩
  refine WL_val rfl (PE_move rfl) ?_
  refine WL_val rfl (PE_extract rfl rfl) ?_
  refine WL_val rfl (PE_extract rfl rfl) ?_
  refine WL_val rfl (PE_assign rfl) ?_
  refine WL_val rfl (PE_assign rfl) ?_
  refine WL_nil ?_
  refine QA_seq ?_
  refine CW_seq ?_
  refine CW_region (l := [_, _]) ?_
  refine WL_val rfl (PE_move rfl) ?_
  refine WL_val rfl (PE_assign rfl) ?_
  refine WL_nil ?_
  refine QA_seq ?_
  refine CW_ret ?_
  refine QA_return (rs := [_]) rfl rfl (IM.le.refl _) (_) (fun _ _ h => h) ?_
  exact ⟨rfl, rfl, rfl⟩

theorem fu_spec (w0 : World) (I : IM) (ah : AH) (u : Nat) (hu : u < 36 ^ 12) :
    SC P w0 n_strconv_FormatUint [.int .u64 (u : Nat), .int .i64 36] I ah (fun v I' ah' => I = I' ∧ ah = ah' ∧ v = .string ⟨(fmt36 u).toArray⟩) := by
  refine SC_enter fn_strconv_FormatUint rfl rfl (Nat.le_of_ble_eq_true rfl) ?_
  refine CW_seq ?_
  refine CW_region (l := [_]) ?_
  refine WL_val rfl (PE_assign rfl) ?_
  refine WL_nil ?_
  refine QA_seq ?_
  refine CW_seq ?_
  refine CW_region (l := [_, _, _, _]) ?_
  refine WL_val rfl (PE_move rfl) ?_
  refine WL_val rfl (PE_move rfl) ?_
  refine WL_op rfl (OE_call (l := [_, _]) E_internal_strconv_FormatUint rfl rfl (ifu_spec _ _ _ u hu)) ?_
  rintro _ I1_2 ah1_2 ⟨_, rfl, _, rfl, rfl, rfl⟩
  refine WL_val rfl (PE_assign rfl) ?_
  refine WL_nil ?_
  refine QA_seq ?_
  refine CW_ret ?_
  refine QA_return (rs := [_]) rfl rfl (IM.le.refl _) (_) (fun _ _ h => h) ?_
  exact ⟨rfl, rfl, rfl⟩

theorem ifi_spec (w0 : World) (I : IM) (ah : AH) (u : Nat) (hu : u < 36 ^ 12) :
    SC P w0 n_internal_strconv_FormatInt [.int .i64 (u : Nat), .int .i64 36] I ah (fun v I' ah' => I = I' ∧ ah = ah' ∧ v = .string ⟨(fmt36 u).toArray⟩) := by
  refine SC_enter fn_internal_strconv_FormatInt rfl rfl (Nat.le_of_ble_eq_true rfl) ?_
  refine CW_seq ?_
  refine CW_region (l := [_]) ?_
  refine WL_val rfl (PE_assign rfl) ?_
  refine WL_nil ?_
  refine QA_seq ?_
  refine CW_seq ?_
  refine CW_seq ?_
  refine CW_region (l := [_, _]) ?_
  refine WL_val rfl (PE_move rfl) ?_
  refine WL_val rfl (PE_eqi (b := false) rfl rfl rfl) ?_
  refine WL_nil ?_
  refine QA_seq ?_
  refine CW_false rfl ?_
  refine CW_skip ?_
  refine QA_seq ?_
  refine CW_seq ?_
  refine CW_region (l := [_, _, _, _, _, _, _, _, _, _, _]) ?_
  refine WL_val rfl (PE_move rfl) ?_
  refine WL_val rfl (PE_convI (r := (u : Int)) und_int64 und_uint64 rfl (wu64 (by omega) (by omega))) ?_
  refine WL_val rfl (PE_move rfl) ?_
  refine WL_val rfl (PE_move rfl) ?_
  refine WL_val rfl (PE_lss (b := false) rfl rfl (by simp)) ?_
  refine WL_op rfl (OE_call (l := [_, _, _, _, _]) E_internal_strconv_formatBits rfl rfl (bits_spec _ _ _ u hu)) ?_
  rintro _ I14_5 ah14_5 ⟨_, rfl, _, rfl, rfl, rfl⟩
  refine WL_val rfl (PE_move rfl) ?_
  refine WL_val rfl (PE_extract rfl rfl) ?_
  refine WL_val rfl (PE_extract rfl rfl) ?_
  refine WL_val rfl (PE_assign rfl) ?_
  refine WL_val rfl (PE_assign rfl) ?_
  refine WL_nil ?_
  refine QA_seq ?_
  refine CW_seq ?_
  refine CW_region (l := [_, _]) ?_
  refine WL_val rfl (PE_move rfl) ?_
  refine WL_val rfl (PE_assign rfl) ?_
  refine WL_nil ?_
  refine QA_seq ?_
  refine CW_ret ?_
  refine QA_return (rs := [_]) rfl rfl (IM.le.refl _) (_) (fun _ _ h => h) ?_
  exact ⟨rfl, rfl, rfl⟩

theorem fi_spec (w0 : World) (I : IM) (ah : AH) (u : Nat) (hu : u < 36 ^ 12) :
    SC P w0 n_strconv_FormatInt [.int .i64 (u : Nat), .int .i64 36] I ah (fun v I' ah' => I = I' ∧ ah = ah' ∧ v = .string ⟨(fmt36 u).toArray⟩) := by
  refine SC_enter fn_strconv_FormatInt rfl rfl (Nat.le_of_ble_eq_true rfl) ?_
  refine CW_seq ?_
  refine CW_region (l := [_]) ?_
  refine WL_val rfl (PE_assign rfl) ?_
  refine WL_nil ?_
  refine QA_seq ?_
  refine CW_seq ?_
  refine CW_region (l := [_, _, _, _]) ?_
  refine WL_val rfl (PE_move rfl) ?_
  refine WL_val rfl (PE_move rfl) ?_
  refine WL_op rfl (OE_call (l := [_, _]) E_internal_strconv_FormatInt rfl rfl (ifi_spec _ _ _ u hu)) ?_
  rintro _ I1_2 ah1_2 ⟨_, rfl, _, rfl, rfl, rfl⟩
  refine WL_val rfl (PE_assign rfl) ?_
  refine WL_nil ?_
  refine QA_seq ?_
  refine CW_ret ?_
  refine QA_return (rs := [_]) rfl rfl (IM.le.refl _) (_) (fun _ _ h => h) ?_
  exact ⟨rfl, rfl, rfl⟩

theorem fmt36_len : ∀ (n u : Nat), u < 36 ^ (n + 1) → (fmt36 u).length ≤ n + 1 ∧ 1 ≤ (fmt36 u).length
  | 0, u, h => by rw [fmt36_lo (by simpa using h)]; simp
  | n + 1, u, h => by
    by_cases hu : u < 36
    · rw [fmt36_lo hu]; simp
    · have := fmt36_len n (u / 36) ((Nat.div_lt_iff_lt_mul (by omega)).2 (by rwa [← Nat.pow_succ]))
      rw [fmt36_hi hu]; simp; omega
def pname (turn part : Nat) : ByteArray := (⟨#[114]⟩ ++ ⟨(fmt36 turn).toArray⟩ ++ ⟨#[46]⟩) ++ ⟨(fmt36 part).toArray⟩

theorem name_spec (w0 : World) (I : IM) (ah : AH) (turn part : Nat) (h1 : turn < 36 ^ 12) (h2 : part < 36 ^ 12) :
    SC P w0 n_journal_name [.int .u64 (turn : Nat), .int .i64 (part : Nat)] I ah (fun v I' ah' => I = I' ∧ ah = ah' ∧ v = .string (pname turn part)) := by
  refine SC_enter fn_journal_name rfl rfl (Nat.le_of_ble_eq_true rfl) ?_
  refine CW_seq ?_
  refine CW_region (l := [_]) ?_
  refine WL_val rfl (PE_assign rfl) ?_
  refine WL_nil ?_
  refine QA_seq ?_
  refine CW_seq ?_
  have l1 := (fmt36_len 11 turn h1).1
  have l2 := (fmt36_len 11 part h2).1
  refine CW_region (l := [_, _, _, _, _, _, _, _]) ?_
  refine WL_val rfl (PE_move rfl) ?_
  refine WL_op rfl (OE_call (l := [_, _]) E_strconv_FormatUint rfl rfl (fu_spec _ _ _ turn h1)) ?_
  rintro _ I1_1 ah1_1 ⟨_, rfl, _, rfl, rfl, rfl⟩
  refine WL_val rfl (PE_cat rfl rfl (by simp [ByteArray.size]; omega)) ?_
  refine WL_val rfl (PE_cat rfl rfl (by simp [ByteArray.size]; omega)) ?_
  refine WL_val rfl (PE_move rfl) ?_
  refine WL_op rfl (OE_call (l := [_, _]) E_strconv_FormatInt rfl rfl (fi_spec _ _ _ part h2)) ?_
  rintro _ I1_5 ah1_5 ⟨_, rfl, _, rfl, rfl, rfl⟩
  refine WL_val rfl (PE_cat rfl rfl (by simp [ByteArray.size]; omega)) ?_
  refine WL_val rfl (PE_assign rfl) ?_
  refine WL_nil ?_
  refine QA_seq ?_
  refine CW_ret ?_
  refine QA_return (rs := [_]) rfl rfl (IM.le.refl _) (_) (fun _ _ h => h) ?_
  exact ⟨rfl, rfl, rfl⟩

end Go.Proofs.YthdpebagkfloaaaDoor

