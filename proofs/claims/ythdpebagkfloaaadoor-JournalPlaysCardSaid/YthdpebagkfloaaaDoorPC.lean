/- octet: numbers in bytes; words turned. -/
import Derived.Test.YthdpebagkfloaaaDoorPB
namespace Go.Proofs.YthdpebagkfloaaaDoor
open Go Go.RowKit SL
set_option linter.unusedVariables false
set_option linter.unusedSimpArgs false
set_option maxRecDepth 100000
def bigB (v : Nat) : Nat → List UInt8
  | 0 => []
  | m + 1 => UInt8.ofNat (v / 2 ^ (8 * m)) :: bigB v m
theorem bigB_len (v m : Nat) : (bigB v m).length = m := by induction m <;> simp_all [bigB]
def ofBig (l : List UInt8) : Nat := l.foldl (fun v x => v * 256 + x.toNat) 0
theorem ofBig_snoc (l : List UInt8) (x : UInt8) : ofBig (l ++ [x]) = ofBig l * 256 + x.toNat := by simp [ofBig]
theorem ofBig_lt (l : List UInt8) : ofBig l < 256 ^ l.length := by
  suffices h : ∀ n (l : List UInt8), l.length = n → ofBig l < 256 ^ n from h _ _ rfl
  intro n
  induction n with
  | zero => intro l hl; have : l = [] := List.eq_nil_of_length_eq_zero hl; subst this; simp [ofBig]
  | succ n ih =>
    intro l hl
    rcases List.eq_nil_or_concat l with rfl | ⟨r, x, hrx⟩
    · simp at hl
    · obtain rfl : l = r ++ [x] := by simpa using hrx
      have hr : r.length = n := by simp at hl; omega
      have := ih r hr; have hx := x.toNat_lt
      rw [ofBig_snoc, Nat.pow_succ]; omega
theorem or_low (v : Nat) (x : UInt8) (hv : v * 256 < 2 ^ 64) : Op.intBits .or .u64 ((v * 256 : Nat) : Int) (x.toNat : Int) = pure (.int .u64 ((v * 256 + x.toNat : Nat) : Int)) := by
  have hx := x.toNat_lt
  have e : Op.intBits .or .u64 ((v * 256 : Nat) : Int) (x.toNat : Int) = pure (.int .u64 (IntKind.u64.wrap ((BitVec.ofInt 64 ((v * 256 : Nat) : Int)) ||| (BitVec.ofInt 64 (x.toNat : Int))).toNat)) := rfl
  have h : ((BitVec.ofInt 64 ((v * 256 : Nat) : Int)) ||| (BitVec.ofInt 64 (x.toNat : Int))).toNat = v * 256 + x.toNat := by
    rw [BitVec.ofInt_natCast, BitVec.ofInt_natCast, BitVec.toNat_or, BitVec.toNat_ofNat, BitVec.toNat_ofNat, Nat.mod_eq_of_lt hv, Nat.mod_eq_of_lt (by omega)]
    have : v * 256 = v <<< 8 := by rw [Nat.shiftLeft_eq]
    rw [this, ← Nat.shiftLeft_add_eq_or_of_lt (by omega : x.toNat < 2 ^ 8)]
  rw [e, h, wu64 (by omega) (by omega)]
theorem shl8 (v : Nat) (hv : v * 256 < 2 ^ 64) : Op.shift .shl .u64 (v : Int) .u64 8 = pure (.int .u64 ((v * 256 : Nat) : Int)) := by
  have : Op.shift .shl .u64 (v : Int) .u64 8 = pure (.int .u64 (IntKind.u64.wrap ((v : Int) * 2 ^ 8))) := rfl
  rw [this, wu64 (by omega) (by omega)]; congr 2
theorem conv8n (n : Nat) : IntKind.u8.wrap (n : Int) = ((UInt8.ofNat n).toNat : Int) := conv8 n

theorem rot32_spec (w0 : World) (I : IM) (ah : AH) (x : UInt32) (n : Nat) (h1 : 1 ≤ n) (h2 : n ≤ 31) :
    SC P w0 n_math_bits_RotateLeft32 [w32v x, .int .i64 (-(n : Int))] I ah (fun v I' ah' => I = I' ∧ ah = ah' ∧ v = w32v (rotr x n)) := by
  refine SC_enter fn_math_bits_RotateLeft32 rfl rfl (Nat.le_of_ble_eq_true rfl) ?_
  refine CW_seq ?_
  refine CW_region (l := [_]) ?_
  refine WL_val rfl (PE_assign rfl) ?_
  refine WL_nil ?_
  refine QA_seq ?_
  refine CW_seq ?_
  refine CW_region (l := [_, _, _, _]) ?_
  refine WL_val rfl (PE_move rfl) ?_
  refine WL_val rfl (PE_convI (r := 18446744073709551616 - (n : Int)) und_int und_uint rfl (by rw [show IntKind.u64.wrap (-(n : Int)) = (-(n : Int)) % 18446744073709551616 by simp [IntKind.wrap, IntKind.bits, IntKind.signed]]; omega)) ?_
  refine WL_val rfl (PE_bits (r := ((32 - n : Nat) : Int)) rfl rfl (by simp) (neg_and31 n h1 h2)) ?_
  refine WL_val rfl (PE_assign rfl) ?_
  refine WL_nil ?_
  refine QA_seq ?_
  refine CW_seq ?_
  refine CW_region (l := [_, _, _, _, _, _, _, _, _]) ?_
  refine WL_val rfl (PE_move rfl) ?_
  refine WL_val rfl (PE_move rfl) ?_
  refine WL_val rfl (PE_shift rfl rfl (.inl rfl) (shl32 x _ (32 - n) (by omega))) ?_
  refine WL_val rfl (PE_move rfl) ?_
  refine WL_val rfl (PE_move rfl) ?_
  refine WL_val rfl (PE_sub (r := (n : Int)) rfl rfl (by rw [wu64 (by omega) (by omega)]; omega)) ?_
  refine WL_val rfl (PE_shift rfl rfl (.inr rfl) (shr32 x _ n (by omega))) ?_
  refine WL_val rfl (PE_bits rfl rfl (by simp) (or32 _ _)) ?_
  refine WL_val rfl (PE_assign rfl) ?_
  refine WL_nil ?_
  refine QA_seq ?_
  refine CW_ret ?_
  refine QA_return (rs := [_]) rfl rfl (IM.le.refl _) (_) (fun _ _ h => h) ?_
  exact ⟨rfl, rfl, rfl⟩

theorem turn_spec (w0 : World) (I : IM) (ah : AH) (x : UInt32) (n : Nat) (h1 : 1 ≤ n) (h2 : n ≤ 31) :
    SC P w0 n_sha_turn [w32v x, .int .i64 (n : Int)] I ah (fun v I' ah' => I = I' ∧ ah = ah' ∧ v = w32v (rotr x n)) := by
  refine SC_enter fn_sha_turn rfl rfl (Nat.le_of_ble_eq_true rfl) ?_
  refine CW_seq ?_
  refine CW_region (l := [_]) ?_
  refine WL_val rfl (PE_assign rfl) ?_
  refine WL_nil ?_
  refine QA_seq ?_
  refine CW_seq ?_
  refine CW_region (l := [_, _, _, _, _]) ?_
  refine WL_val rfl (PE_move rfl) ?_
  refine WL_val rfl (PE_move rfl) ?_
  refine WL_val rfl (PE_un (r := .int .i64 (-(n : Int))) rfl (by show pure (Value.int .i64 (IntKind.i64.wrap (0 - (n : Int)))) = _; rw [w64e (r := -(n : Int)) (by omega) (by omega) (by omega)])) ?_
  refine WL_op rfl (OE_call (l := [_, _]) E_math_bits_RotateLeft32 rfl rfl (rot32_spec _ _ _ x n h1 h2)) ?_
  rintro _ I1_3 ah1_3 ⟨_, rfl, _, rfl, rfl, rfl⟩
  refine WL_val rfl (PE_assign rfl) ?_
  refine WL_nil ?_
  refine QA_seq ?_
  refine CW_ret ?_
  refine QA_return (rs := [_]) rfl rfl (IM.le.refl _) (_) (fun _ _ h => h) ?_
  exact ⟨rfl, rfl, rfl⟩

theorem big_spec (w0 : World) (I : IM) (ah : AH) (v : Value) (l : List UInt8) (x M : Nat) (h : BySl I v l) (hl : l.length ≤ 70368744177600) (hM : M ≤ 8) :
    SC P w0 n_octet_Big [v, .int .u64 x, .int .i64 M] I ah (fun v' I' ah' => OwnB I' ah ah' v' (l ++ bigB x M)) := by
  refine SC_enter fn_octet_Big rfl rfl (Nat.le_of_ble_eq_true rfl) ?_
  refine CW_seq ?_
  refine CW_region (l := [_]) ?_
  refine WL_val rfl (PE_assign rfl) ?_
  refine WL_nil ?_
  refine QA_seq ?_
  refine CW_seq ?_
  refine CW_region (l := [_, _, _]) ?_
  refine WL_val rfl (PE_move rfl) ?_
  refine WL_op rfl (OE_call (l := [_]) E_slices_Clone_sl_byte_byte rfl rfl (sclone_spec _ _ _ _ l h (by omega))) ?_
  rintro _ I1_1 ah1_1 ⟨v1, rfl, hI1, ho1, _⟩
  refine WL_val rfl (PE_assign rfl) ?_
  refine WL_nil ?_
  refine QA_seq ?_
  refine CW_seq ?_
  refine CW_seq ?_
  refine CW_region (l := [_, _, _, _, _]) ?_
  refine WL_val rfl (PE_move rfl) ?_
  refine WL_val rfl (PE_min rfl rfl) ?_
  refine WL_val rfl (PE_max rfl rfl) ?_
  refine WL_val rfl (PE_sub (r := (M : Int) - 1) rfl rfl (w64e (by omega) (by omega) (by omega))) ?_
  refine WL_val rfl (PE_assign rfl) ?_
  refine WL_nil ?_
  refine QA_seq ?_
  refine CW_block ?_
  refine CW_loop (fun m e I' ah' => ∃ v' dn, e = [(8, .int .i64 ((m : Int) - 1)), (1, .int .u64 x), (7, v')] ∧ IM.le I I' ∧ OwnB I' ah ah' v' (l ++ dn) ∧ dn ++ bigB x m = bigB x M ∧ m ≤ M) (M) (e0 := [(8, .int .i64 ((M : Int) - 1)), (1, .int .u64 x), (7, v1)]) (⟨v1, [], rfl, hI1, by simpa using ho1, rfl, Nat.le_refl _⟩) (by repeat (first | exact .nil | refine .cons rfl ?_)) ?_
  rintro m e I2 ah2 ⟨v2, dn, rfl, hI2, ho2, hdn, hm⟩
  have hdl := congrArg List.length hdn
  simp only [List.length_append, bigB_len] at hdl
  refine CW_seq ?_
  refine CW_seq ?_
  refine CW_region (l := [_, _]) ?_
  refine WL_val rfl (PE_move rfl) ?_
  refine WL_val rfl (PE_geq rfl rfl rfl) ?_
  refine WL_nil ?_
  refine QA_seq ?_
  refine CW_cond rfl (fun c1 => ?_) (fun c1 => ?_)
  · obtain ⟨k, rfl⟩ : ∃ k, m = k + 1 := ⟨m - 1, by simp at c1; omega⟩
    refine CW_skip ?_
    refine QA_seq ?_
    refine CW_seq ?_
    refine CW_block ?_
    refine CW_region (l := [_, _, _, _, _, _, _, _, _]) ?_
    refine WL_val rfl (PE_move rfl) ?_
    refine WL_val rfl (PE_move rfl) ?_
    refine WL_val rfl (PE_move rfl) ?_
    refine WL_val rfl (PE_mul (r := ((8 * k : Nat) : Int)) rfl rfl (w64e (by push_cast; omega) (by omega) (by omega))) ?_
    refine WL_val rfl (PE_shift rfl rfl (.inr rfl) (shrN x (8 * k) _ (by omega))) ?_
    refine WL_val rfl (PE_convI und_uint64 und_uint8 rfl (conv8n _)) ?_
    refine WL_op rfl (OE_litI (l := [_]) (vs := [_]) und_sl_uint8 te_uint8 rfl rfl rfl (by simp [Value.cells]) (by decide) rfl rfl) ?_
    rintro _ I5_6 ah5_6 ⟨v5_6, rfl, hI5_6, rfl, hv5_6, hn5_6⟩
    refine WL_op rfl (OE_append (n := (l ++ dn).length) (m := 1) (vs := (l ++ dn).map bv) (us := [UInt8.ofNat (x / 2 ^ (8 * k))].map bv) und_sl_uint8 ⟨_, und_sl_uint8⟩ te_uint8 rfl rfl rfl (ho2.mono hI5_6) (hv5_6.src _) (bvs_one _) (by decide) (by simp; omega) (by simp; omega)) ?_
    rintro _ I5_7 ah5_7 ⟨v5_7, rfl, hI5_7, hv5_7, hn5_7⟩
    refine WL_val rfl (PE_assign rfl) ?_
    refine WL_nil ?_
    refine QA_block_normal ?_
    refine QA_seq ?_
    refine CW_region (l := [_, _, _]) ?_
    refine WL_val rfl (PE_move rfl) ?_
    refine WL_val rfl (PE_sub (r := (k : Int) - 1) rfl rfl (w64e (by push_cast; omega) (by omega) (by omega))) ?_
    refine WL_val rfl (PE_assign rfl) ?_
    refine WL_nil ?_
    exact QA_round k _ (by omega) ⟨v5_7, dn ++ [UInt8.ofNat (x / 2 ^ (8 * k))], by congr 3, hI2.trans (hI5_6.trans hI5_7), by rw [← List.append_assoc]; exact OwnB.of hv5_7 rfl, by simpa [bigB] using hdn, by omega⟩ (by repeat (first | exact .nil | refine .cons rfl ?_))
  · obtain rfl : m = 0 := by simp at c1; omega
    have hfin : dn = bigB x M := by simpa [bigB] using hdn
    subst hfin
    refine CW_exit ?_
    refine QA_then_exit ?_
    refine QA_then_exit ?_
    refine QA_block_here ?_
    refine QA_seq ?_
    refine CW_seq ?_
    refine CW_region (l := [_, _]) ?_
    refine WL_val rfl (PE_move rfl) ?_
    refine WL_val rfl (PE_assign rfl) ?_
    refine WL_nil ?_
    refine QA_seq ?_
    refine CW_ret ?_
    refine QA_return (rs := [_]) rfl rfl (hI2) (_) (fun _ _ h => h) ?_
    exact ho2

theorem fromBig_spec (w0 : World) (I : IM) (ah : AH) (v : Value) (l : List UInt8) (h : BySl I v l) (hl : l.length ≤ 8) :
    SC P w0 n_octet_FromBig [v] I ah (fun v' I' ah' => I = I' ∧ ah = ah' ∧ v' = .tuple #[.int .u64 (ofBig l : Nat), .int .i64 0]) := by
  obtain ⟨a, c, hva, hc, hnil⟩ := SlI.form h
  refine SC_enter fn_octet_FromBig rfl rfl (Nat.le_of_ble_eq_true rfl) ?_
  refine CW_seq ?_
  refine CW_region (l := [_, _]) ?_
  refine WL_val rfl (PE_assign rfl) ?_
  refine WL_val rfl (PE_assign rfl) ?_
  refine WL_nil ?_
  refine QA_seq ?_
  refine CW_seq ?_
  refine CW_seq ?_
  refine CW_region (l := [_, _, _]) ?_
  refine WL_val rfl (PE_move rfl) ?_
  refine WL_val rfl (PE_len und_sl_uint8 (by rw [← hva]; rfl)) ?_
  refine WL_val rfl (PE_gtr (b := false) rfl rfl (by simp; omega)) ?_
  refine WL_nil ?_
  refine QA_seq ?_
  refine CW_false rfl ?_
  refine CW_skip ?_
  refine QA_seq ?_
  refine CW_seq ?_
  refine CW_region (l := [_]) ?_
  refine WL_val rfl (PE_assign rfl) ?_
  refine WL_nil ?_
  refine QA_seq ?_
  refine CW_seq ?_
  refine CW_seq ?_
  refine CW_region (l := [_, _, _]) ?_
  refine WL_val rfl (PE_move rfl) ?_
  refine WL_val rfl (PE_len und_sl_uint8 (by rw [← hva]; rfl)) ?_
  refine WL_val rfl (PE_move rfl) ?_
  refine WL_nil ?_
  refine QA_seq ?_
  refine CW_for (l.length) (by omega) (fun k e I' ah' => e = [(10, v), (4, .int .u64 (ofBig (l.take k) : Nat))] ∧ I = I' ∧ ah = ah') ([(10, v), (4, .int .u64 0)]) (⟨rfl, rfl, rfl⟩) (by repeat (first | exact .nil | refine .cons rfl ?_)) (by rintro k e I ah ⟨rfl, _⟩; exact ⟨rfl, rfl, rfl, rfl⟩) rfl rfl rfl rfl ?_ ?_
  · rintro k e I ah hk ⟨rfl, rfl, rfl⟩
    obtain ⟨b, o, c, hvb, _, hcv⟩ := SlI.at h hk
    have hs := ofBig_snoc (l.take k) l[k]
    rw [← List.take_succ_eq_append_getElem hk] at hs
    have hlt := ofBig_lt (l.take (k + 1))
    have hp : 256 ^ (l.take (k + 1)).length ≤ 256 ^ 8 := Nat.pow_le_pow_right (by decide) (by simp; omega)
    have hv8 : ofBig (l.take k) * 256 < 2 ^ 64 := by omega
    refine CW_block ?_
    refine CW_seq ?_
    refine CW_region (l := [_, _, _]) ?_
    refine WL_val rfl (PE_index1 und_sl_uint8 te_uint8.size (by rw [← hvb]; rfl) rfl rfl hk) ?_
    refine WL_val rfl (PE_load tc_uint8 rfl (.imm (hcv k (bv l[k]) (by rw [List.getElem?_map, List.getElem?_eq_getElem hk]; rfl)))) ?_
    refine WL_val rfl (PE_assign rfl) ?_
    refine WL_nil ?_
    refine QA_seq ?_
    refine CW_region (l := [_, _, _, _, _, _]) ?_
    refine WL_val rfl (PE_move rfl) ?_
    refine WL_val rfl (PE_shift rfl rfl (.inl rfl) (shl8 _ hv8)) ?_
    refine WL_val rfl (PE_move rfl) ?_
    refine WL_val rfl (PE_convI und_uint8 und_uint64 rfl (wu64 (by omega) (by have := l[k].toNat_lt; omega))) ?_
    refine WL_val rfl (PE_bits rfl rfl (by simp) (or_low _ _ hv8)) ?_
    refine WL_val rfl (PE_assign rfl) ?_
    refine WL_nil ?_
    refine QA_block_normal ?_
    exact QA_next _ ⟨by rw [hs], rfl, rfl⟩ (by repeat (first | exact .nil | refine .cons rfl ?_))
  · rintro e I ah ⟨rfl, rfl, rfl⟩
    rw [List.take_of_length_le (Nat.le_refl _)]
    refine QA_seq ?_
    refine CW_seq ?_
    refine CW_region (l := [_, _, _]) ?_
    refine WL_val rfl (PE_move rfl) ?_
    refine WL_val rfl (PE_assign rfl) ?_
    refine WL_val rfl (PE_assign rfl) ?_
    refine WL_nil ?_
    refine QA_seq ?_
    refine CW_ret ?_
    refine QA_return (rs := [_, _]) rfl rfl (IM.le.refl _) (_) (fun _ _ h => h) ?_
    exact ⟨rfl, rfl, rfl⟩

end Go.Proofs.YthdpebagkfloaaaDoor

