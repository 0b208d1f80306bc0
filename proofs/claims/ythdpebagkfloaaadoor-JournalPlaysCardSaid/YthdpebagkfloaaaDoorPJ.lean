/- disk: a file's sync and its crash. -/
import Derived.Test.YthdpebagkfloaaaDoorPI
namespace Go.Proofs.YthdpebagkfloaaaDoor
open Go Go.RowKit SL
set_option linter.unusedVariables false
set_option linter.unusedSimpArgs false
set_option maxRecDepth 100000
/-- The two slices of a file are stored anew. -/
theorem FileAt.put {ρ : Roles} {I : IM} {ah : AH} {f : Nat} {dv tv : Value} {pvs : List Value} {data : List UInt8} {parts : List (List UInt8)} (h2 : ρ f = .fil f) (h3 : Rgt ρ I ah (.dat f) dv data.length (data.map bv)) (h4 : Rgt ρ I ah (.prt f) tv parts.length pvs) (h5 : Rows I pvs parts) :
    FileAt ρ I (ah.set f (.cells [dv, tv])) f data parts := by
  have e : Evo (fun r => r = .fil f) ρ ah ρ (ah.set f (.cells [dv, tv])) := Evo.set _ h2
  exact ⟨dv, tv, pvs, AH.set_same _ _ _, h2, h3.evo e (by simp), h4.evo e (by simp), h5⟩

theorem fsync_spec (w0 : World) (I : IM) (ah : AH) (ρ : Roles) (f : Nat) (data : List UInt8) (parts : List (List UInt8)) (hf : FileAt ρ I ah f data parts) (hb : data.length + parts.flatten.length ≤ 70368744177600) (hp : parts.length ≤ 70368744177600) :
    SC P w0 n_disk_file_sync [.pointer (some ⟨f, 0, none⟩)] I ah (fun v I' ah' => ∃ ρ', Evo (ofF f) ρ ah ρ' ah' ∧ FileAt ρ' I' ah' f (data ++ parts.flatten) []) := by
  have hf0 := hf
  obtain ⟨dv, tv, pvs, h1, h2, h3, h4, h5⟩ := hf
  refine SC_enter fn_disk_file_sync rfl rfl (Nat.le_of_ble_eq_true rfl) ?_
  refine CW_region (l := [_, _, _, _, _, _, _, _, _, _]) ?_
  refine WL_val rfl (PE_move rfl) ?_
  refine WL_val rfl (PE_move rfl) ?_
  refine WL_val rfl (PE_move rfl) ?_
  refine WL_op rfl (OE_call (l := [_]) E_disk_file_all rfl rfl (fall_spec _ _ _ ρ f data parts hf0 hb hp)) ?_
  rintro _ I0_3 ah0_3 ⟨v3, rfl, hI3, ho3⟩
  obtain ⟨va, vc, rfl, _⟩ := SlI.form ho3.sl
  have h1' := Own.base ho3 f _ h1
  obtain ⟨ρ', hr, he⟩ := Rgt.ofNew (ρ := ρ) (fun r => r = .dat f) (.dat f) ho3
  have h2' := (he f _ h1 (by rw [h2]; simp)).2.trans h2
  refine WL_val rfl (PE_nilCheck rfl) ?_
  refine WL_val rfl (PE_fieldAddr fa_disk_file_0 rfl) ?_
  refine WL_op rfl (OE_store tc_sl_uint8 rfl rfl rfl h1' (by simp)) ?_
  rintro _ I0_6 ah0_6 ⟨rfl, rfl, rfl⟩
  refine WL_val rfl (PE_nilCheck rfl) ?_
  refine WL_val rfl (PE_fieldAddr fa_disk_file_1 rfl) ?_
  refine WL_op rfl (OE_store tc_sl_sl_uint8 rfl rfl rfl (AH.set_same _ _ _) (by simp)) ?_
  rintro _ I0_9 ah0_9 ⟨rfl, rfl, rfl⟩
  refine WL_nil ?_
  refine QA_end (rs := []) rfl rfl (hI3) (_) (fun _ _ h => h) ?_
  rw [AH.set_set]
  refine ⟨ρ', (he.mono (by rintro r rfl; exact .inr (.inl rfl))).trans (Evo.set _ (by rw [h2']; exact .inl rfl)), ?_⟩
  exact FileAt.put h2' hr (Rgt.nil _ _ _ _) (Rows.nil _)

def stays (keep i : Nat) : Bool := keep.testBit (min i 63)
theorem and_one (n : Nat) (hn : n < 18446744073709551616) : Op.intBits .and .u64 (n : Int) 1 = pure (.int .u64 ((n % 2 : Nat) : Int)) := by
  have e : Op.intBits .and .u64 (n : Int) 1 = pure (.int .u64 (IntKind.u64.wrap ((BitVec.ofInt 64 (n : Int)) &&& (BitVec.ofInt 64 1)).toNat)) := rfl
  have h : ((BitVec.ofInt 64 (n : Int)) &&& (BitVec.ofInt 64 1)).toNat = n % 2 := by
    rw [BitVec.ofInt_natCast, show (BitVec.ofInt 64 1) = BitVec.ofNat 64 1 from rfl, BitVec.toNat_and, BitVec.toNat_ofNat, BitVec.toNat_ofNat, Nat.mod_eq_of_lt (by omega : n < 2 ^ 64)]
    exact Nat.and_one_is_mod n
  rw [e, h, wu64 (by omega) (by omega)]

theorem stays_spec (w0 : World) (I : IM) (ah : AH) (b keep i : Nat) (hk : keep < 18446744073709551616) (hb : Cell I ah b 0 (.int .u64 (keep : Int))) :
    SC P w0 n_disk_file_crash_1 [.int .i64 (i : Nat), .pointer (some ⟨b, 0, none⟩)] I ah (fun v I' ah' => I = I' ∧ ah = ah' ∧ v = .bool (stays keep i)) := by
  refine SC_enter fn_disk_file_crash_1 rfl rfl (Nat.le_of_ble_eq_true rfl) ?_
  refine CW_seq ?_
  refine CW_region (l := [_]) ?_
  refine WL_val rfl (PE_assign rfl) ?_
  refine WL_nil ?_
  refine QA_seq ?_
  refine CW_seq ?_
  refine CW_region (l := [_, _, _, _, _, _, _]) ?_
  refine WL_val rfl (PE_load tc_uint64 rfl hb) ?_
  refine WL_val rfl (PE_move rfl) ?_
  have hm : min (i : Int) 63 = ((min i 63 : Nat) : Int) := by omega
  refine WL_val rfl (PE_min rfl rfl) ?_
  rw [hm]
  refine WL_val rfl (PE_shift rfl rfl (.inr rfl) (shrN keep (min i 63) .i64 (by omega))) ?_
  refine WL_val rfl (PE_bits rfl rfl (.inl rfl) (and_one _ (Nat.lt_of_le_of_lt (Nat.div_le_self _ _) hk))) ?_
  refine WL_val rfl (PE_eqi (b := stays keep i) rfl rfl (by unfold stays; rw [Nat.testBit_eq_decide_div_mod_eq]; generalize keep / 2 ^ min i 63 = x; exact decide_eq_decide.2 (by omega))) ?_
  refine WL_val rfl (PE_assign rfl) ?_
  refine WL_nil ?_
  refine QA_seq ?_
  refine CW_ret ?_
  refine QA_return (rs := [_]) rfl rfl (IM.le.refl _) (_) (fun _ _ h => h) ?_
  exact ⟨rfl, rfl, rfl⟩

/-- One more than the last write that stays. -/
def lastS (keep : Nat) : Nat → Nat
  | 0 => 0
  | k + 1 => if stays keep k then k + 1 else lastS keep k
theorem lastS_le (keep k : Nat) : lastS keep k ≤ k := by
  induction k with
  | zero => exact Nat.le_refl _
  | succ k ih => unfold lastS; split <;> omega
def crashPart (keep : Nat) (torn : Int) (n i : Nat) (p : List UInt8) : List UInt8 :=
  if stays keep i then (if i + 1 = n ∧ 0 < torn then p.take (p.length - min torn.toNat p.length) else p) else List.replicate p.length 0
def crashTo (keep : Nat) (torn : Int) (n : Nat) (parts : List (List UInt8)) : Nat → List UInt8
  | 0 => []
  | k + 1 => crashTo keep torn n parts k ++ crashPart keep torn n k (parts.getD k [])
/-- What a crash leaves of the writes since the last sync. -/
def crashB (keep : Nat) (torn : Int) (parts : List (List UInt8)) : List UInt8 := crashTo keep torn (lastS keep parts.length) parts (lastS keep parts.length)
theorem crashPart_len (keep : Nat) (torn : Int) (n i : Nat) (p : List UInt8) : (crashPart keep torn n i p).length ≤ p.length := by
  unfold crashPart; (repeat' split) <;> simp
theorem crashTo_len (keep : Nat) (torn : Int) (n : Nat) (parts : List (List UInt8)) : ∀ k, k ≤ parts.length → (crashTo keep torn n parts k).length ≤ (parts.take k).flatten.length
  | 0, _ => by simp [crashTo]
  | k + 1, h => by
    have ih := crashTo_len keep torn n parts k (by omega)
    have h1 := crashPart_len keep torn n k (parts.getD k [])
    have e : parts.getD k [] = parts[k] := by simp [List.getD, List.getElem?_eq_getElem (show k < parts.length by omega)]
    rw [crashTo, flat_take parts k (by omega), List.length_append, List.length_append]
    rw [e] at h1 ⊢; omega

theorem fcrash_spec (w0 : World) (I : IM) (ah : AH) (ρ : Roles) (f : Nat) (data : List UInt8) (parts : List (List UInt8)) (hf : FileAt ρ I ah f data parts) (hb : data.length + parts.flatten.length ≤ 70368744177600) (hp : parts.length ≤ 70368744177600)
    (keep : Nat) (hkeep : keep < 18446744073709551616) (torn : Int) (htorn : -9223372036854775808 ≤ torn ∧ torn < 9223372036854775808) :
    SC P w0 n_disk_file_crash [.pointer (some ⟨f, 0, none⟩), .int .u64 (keep : Nat), .int .i64 torn] I ah (fun v I' ah' => ∃ ρ', Evo (ofF f) ρ ah ρ' ah' ∧ FileAt ρ' I' ah' f (data ++ crashB keep torn parts) []) := by
  refine SC_enter fn_disk_file_crash rfl rfl (Nat.le_of_ble_eq_true rfl) ?_
  refine CW_seq ?_
  refine CW_region (l := [_]) ?_
  refine WL_op rfl (OE_box rfl rfl) ?_
  rintro _ I0_0 ah0_0 ⟨b0_0, rfl, rfl, rfl, hb0_0, hw0_0⟩
  have hev0 : Evo (ofF f) ρ ah (ρ.set b0_0 .out) (ah.set b0_0 (.cells [Value.int .u64 (keep : Nat)])) := Evo.new _ _ hb0_0
  have hf1 : FileAt (ρ.set b0_0 .out) I (ah.set b0_0 (.cells [Value.int .u64 (keep : Nat)])) f data parts := hf.evo (S := fun _ => False) (Evo.new _ _ hb0_0) (fun _ _ h => h)
  have hr0 : (ρ.set b0_0 .out) b0_0 = .out := by simp [Roles.set]
  have hcb : (ah.set b0_0 (.cells [Value.int .u64 (keep : Nat)])) b0_0 = some (.cells [Value.int .u64 (keep : Nat)]) := AH.set_same _ _ _
  change WL _ _ _ _ _ (ah.set b0_0 (.cells [Value.int .u64 (keep : Nat)])) _
  generalize ah.set b0_0 (.cells [Value.int .u64 (keep : Nat)]) = ah1 at hev0 hf1 hcb ⊢
  generalize ρ.set b0_0 .out = ρ1 at hev0 hf1 hr0
  have hf1' := hf1
  obtain ⟨dv, tv, pvs, h1, h2, h3, h4, h5⟩ := hf1
  obtain ⟨ta, tc, htv, _⟩ := SlI.form h4.1
  refine WL_nil ?_
  refine QA_seq ?_
  refine CW_seq ?_
  refine CW_region (l := [_]) ?_
  refine WL_val rfl (PE_assign rfl) ?_
  refine WL_nil ?_
  refine QA_seq ?_
  refine CW_seq ?_
  refine CW_region (l := [_, _]) ?_
  refine WL_val rfl (PE_makeFunc (l := []) (m := [_]) rfl rfl) ?_
  refine WL_val rfl (PE_assign rfl) ?_
  refine WL_nil ?_
  refine QA_seq ?_
  refine CW_seq ?_
  refine CW_seq ?_
  refine CW_region (l := [_, _, _, _, _, _]) ?_
  refine WL_val rfl (PE_move rfl) ?_
  refine WL_val rfl (PE_nilCheck rfl) ?_
  refine WL_val rfl (PE_fieldAddr fa_disk_file_1 rfl) ?_
  refine WL_val rfl (PE_load tc_sl_sl_uint8 rfl (.own h1 rfl)) ?_
  refine WL_val rfl (PE_len und_sl_sl_uint8 (by rw [← htv]; rfl)) ?_
  refine WL_val rfl (PE_move rfl) ?_
  refine WL_nil ?_
  refine QA_seq ?_
  refine CW_for (parts.length) (by omega) (fun k e I' ah' => e = [(0, .pointer (some ⟨f, 0, none⟩)), (2, .int .i64 torn), (6, .int .i64 (((lastS keep k : Nat) : Int) - 1)), (7, .func (.func 44) #[] #[.pointer (some ⟨b0_0, 0, none⟩)])] ∧ I = I' ∧ ah1 = ah') ([(0, .pointer (some ⟨f, 0, none⟩)), (2, .int .i64 torn), (6, .int .i64 (((lastS keep 0 : Nat) : Int) - 1)), (7, .func (.func 44) #[] #[.pointer (some ⟨b0_0, 0, none⟩)])]) (⟨rfl, rfl, rfl⟩) (by repeat (first | exact .nil | refine .cons rfl ?_)) (by rintro k e I ah ⟨rfl, _⟩; exact ⟨rfl, rfl, rfl, rfl⟩) rfl rfl rfl rfl ?_ ?_
  · rintro k e I ah1 hk ⟨rfl, rfl, rfl⟩
    refine CW_block ?_
    refine CW_seq ?_
    refine CW_region (l := [_, _]) ?_
    refine WL_val rfl (PE_move rfl) ?_
    refine WL_val rfl (PE_assign rfl) ?_
    refine WL_nil ?_
    refine QA_seq ?_
    refine CW_seq ?_
    refine CW_region (l := [_, _, _]) ?_
    refine WL_val rfl (PE_move rfl) ?_
    refine WL_val rfl (PE_move rfl) ?_
    refine WL_op rfl (OE_callv (fs := []) (l := [_]) (cs := [_]) E_disk_file_crash_1 rfl rfl rfl (stays_spec _ _ _ b0_0 keep k hkeep (.own hcb rfl))) ?_
    rintro _ I6_2 ah6_2 ⟨_, rfl, _, rfl, rfl, rfl⟩
    refine WL_nil ?_
    refine QA_seq ?_
    refine CW_cond rfl (fun c2 => ?_) (fun c2 => ?_)
    · skip
      refine CW_region (l := [_, _]) ?_
      refine WL_val rfl (PE_move rfl) ?_
      refine WL_val rfl (PE_assign rfl) ?_
      refine WL_nil ?_
      refine QA_block_normal ?_
      exact QA_next _ ⟨by rw [lastS, if_pos c2, show (((k + 1 : Nat) : Int) - 1) = (k : Int) by omega], rfl, rfl⟩ (by repeat (first | exact .nil | refine .cons rfl ?_))
    · skip
      refine CW_skip ?_
      refine QA_block_normal ?_
      exact QA_next _ ⟨by rw [lastS, if_neg (by rw [c2]; simp)], rfl, rfl⟩ (by repeat (first | exact .nil | refine .cons rfl ?_))
  · rintro e I ah1 ⟨rfl, rfl, rfl⟩
    have hls := lastS_le keep parts.length
    refine QA_seq ?_
    refine CW_seq ?_
    refine CW_seq ?_
    refine CW_region (l := [_, _, _]) ?_
    refine WL_val rfl (PE_move rfl) ?_
    refine WL_val rfl (PE_add (r := ((lastS keep parts.length : Nat) : Int)) rfl rfl (w64e (by omega) (by omega) (by omega))) ?_
    refine WL_val rfl (PE_move rfl) ?_
    refine WL_nil ?_
    refine QA_seq ?_
    refine CW_for (lastS keep parts.length) (by omega) (fun k e I' A' => ∃ ρ', e = [(0, .pointer (some ⟨f, 0, none⟩)), (2, .int .i64 torn), (6, .int .i64 (((lastS keep parts.length : Nat) : Int) - 1)), (7, .func (.func 44) #[] #[.pointer (some ⟨b0_0, 0, none⟩)])] ∧ IM.le I I' ∧ Evo (ofF f) ρ1 ah1 ρ' A' ∧ FileAt ρ' I' A' f (data ++ crashTo keep torn (lastS keep parts.length) parts k) parts) ([(0, .pointer (some ⟨f, 0, none⟩)), (2, .int .i64 torn), (6, .int .i64 (((lastS keep parts.length : Nat) : Int) - 1)), (7, .func (.func 44) #[] #[.pointer (some ⟨b0_0, 0, none⟩)])]) (⟨ρ1, rfl, IM.le.refl _, Evo.refl _ _ _, by rw [crashTo, List.append_nil]; exact hf1'⟩) (by repeat (first | exact .nil | refine .cons rfl ?_)) (by rintro k e I ah ⟨_, rfl, _⟩; exact ⟨rfl, rfl, rfl, rfl⟩) rfl rfl rfl rfl ?_ ?_
    · rintro k e I2 A' hk ⟨ρ', rfl, hI2, hev, hf2⟩
      have hkp : k < parts.length := by omega
      have hct := crashTo_len keep torn (lastS keep parts.length) parts k (by omega)
      have hfl := flat_le parts k
      have hk1 := len_le_flat parts k hkp
      have hcb' := (hev b0_0 _ hcb (by rw [hr0]; rintro (h | h | h) <;> cases h)).1
      obtain ⟨dv', tv', pvs', g1, g2, g3, g4, g5⟩ := hf2
      obtain ⟨da', dc', rfl, _⟩ := SlI.form g3.1
      obtain ⟨b, o, c, hvb, _, hcv⟩ := SlI.at g4.1 hkp
      obtain ⟨u, hu, hul⟩ := g5.2 k parts[k] (by simp)
      obtain ⟨a1, c1, rfl, hc1, _⟩ := hul.form
      refine CW_block ?_
      refine CW_seq ?_
      refine CW_region (l := [_, _]) ?_
      refine WL_val rfl (PE_move rfl) ?_
      refine WL_val rfl (PE_assign rfl) ?_
      refine WL_nil ?_
      refine QA_seq ?_
      refine CW_seq ?_
      refine CW_region (l := [_, _, _, _, _, _, _, _]) ?_
      refine WL_val rfl (PE_move rfl) ?_
      refine WL_val rfl (PE_nilCheck rfl) ?_
      refine WL_val rfl (PE_fieldAddr fa_disk_file_1 rfl) ?_
      refine WL_val rfl (PE_load tc_sl_sl_uint8 rfl (.own g1 rfl)) ?_
      refine WL_val rfl (PE_move rfl) ?_
      refine WL_val rfl (PE_index1 und_sl_sl_uint8 te_sl_uint8.size (by rw [← hvb]; rfl) rfl rfl hkp) ?_
      refine WL_val rfl (PE_load tc_sl_uint8 rfl (.imm (hcv k _ hu))) ?_
      refine WL_val rfl (PE_assign rfl) ?_
      refine WL_nil ?_
      refine QA_seq ?_
      refine CW_join (fun e I' A2 => ∃ w, e = [(27, .int .i64 (k : Nat)), (26, .int .i64 ((lastS keep parts.length : Nat) : Int)), (0, .pointer (some ⟨f, 0, none⟩)), (2, .int .i64 torn), (6, .int .i64 (((lastS keep parts.length : Nat) : Int) - 1)), (7, .func (.func 44) #[] #[.pointer (some ⟨b0_0, 0, none⟩)]), (10, w)] ∧ IM.le I2 I' ∧ A' = A2 ∧ BySl I' w (crashPart keep torn (lastS keep parts.length) k parts[k])) ?_ ?_
      · refine CW_block ?_
        refine CW_seq ?_
        refine CW_region (l := [_, _, _, _, _]) ?_
        refine WL_val rfl (PE_move rfl) ?_
        refine WL_val rfl (PE_move rfl) ?_
        refine WL_op rfl (OE_callv (fs := []) (l := [_]) (cs := [_]) E_disk_file_crash_1 rfl rfl rfl (stays_spec _ _ _ b0_0 keep k hkeep (.own hcb' rfl))) ?_
        rintro _ I13_2 ah13_2 ⟨_, rfl, _, rfl, rfl, rfl⟩
        refine WL_val rfl (PE_un rfl (rfl)) ?_
        refine WL_val rfl (PE_assign rfl) ?_
        refine WL_nil ?_
        refine QA_seq ?_
        refine CW_cond rfl (fun c4 => ?_) (fun c4 => ?_)
        · have hst : stays keep k = false := by simpa using c4
          refine CW_region (l := [_, _, _, _]) ?_
          refine WL_val rfl (PE_move rfl) ?_
          refine WL_val rfl (PE_len und_sl_uint8 rfl) ?_
          refine WL_op rfl (OE_make und_sl_uint8 te_uint8 rfl rfl rfl rfl (by omega) (by omega) (by omega)) ?_
          rintro _ I14_2 ah14_2 ⟨b14_2, rfl, rfl, rfl, hb14_2, hw14_2⟩
          refine WL_freeze (AH.set_same _ _ _) ?_
          rintro I14 hI14 hz14
          rw [AH.del_set, AH.del_none _ hb14_2]
          have hz : BySl I14 (.slice (some ⟨b14_2, 0, none⟩) parts[k].length parts[k].length) (crashPart keep torn (lastS keep parts.length) k parts[k]) := by
            rw [crashPart, if_neg (by rw [hst]; simp)]
            exact .inr ⟨b14_2, 0, parts[k].length, by simp, by simp, by simp, fun i u e => by rw [Nat.zero_add]; exact hz14 i u (by simpa [bv] using e)⟩
          refine WL_val rfl (PE_assign rfl) ?_
          refine WL_nil ?_
          refine QA_block_normal ?_
          exact QA_join _ ⟨_, rfl, hI14, rfl, hz⟩ (by repeat (first | exact .nil | refine .cons rfl ?_))
        · have hst : stays keep k = true := by simpa using c4
          refine CW_seq ?_
          by_cases hkn : k + 1 = lastS keep parts.length
          · skip
            refine CW_region (l := [_, _, _, _, _, _, _, _]) ?_
            refine WL_val rfl (PE_move rfl) ?_
            refine WL_val rfl (PE_move rfl) ?_
            refine WL_val rfl (PE_eqi (b := true) rfl rfl (by simp; omega)) ?_
            refine WL_val rfl (PE_move rfl) ?_
            refine WL_gon rfl rfl rfl ?_
            refine WL_val rfl (PE_move rfl) ?_
            refine WL_gon rfl rfl rfl ?_
            refine WL_val rfl (PE_gtr rfl rfl rfl) ?_
            refine WL_val rfl (PE_pick rfl (fun _ => rfl) (fun _ => rfl)) ?_
            refine WL_val rfl (PE_assign rfl) ?_
            refine WL_nil ?_
            refine QA_seq ?_
            refine CW_cond rfl (fun c5 => ?_) (fun c5 => ?_)
            · have htp : 0 < torn := by simpa using c5
              refine CW_region (l := [_, _, _, _, _, _, _, _, _, _]) ?_
              refine WL_val rfl (PE_move rfl) ?_
              refine WL_val rfl (PE_move rfl) ?_
              refine WL_val rfl (PE_len und_sl_uint8 rfl) ?_
              refine WL_val rfl (PE_move rfl) ?_
              refine WL_val rfl (PE_move rfl) ?_
              refine WL_val rfl (PE_len und_sl_uint8 rfl) ?_
              have hmin : min torn ((parts[k].length : Nat) : Int) = ((min torn.toNat parts[k].length : Nat) : Int) := by omega
              refine WL_val rfl (PE_min rfl rfl) ?_
              rw [hmin]
              refine WL_val rfl (PE_sub (r := ((parts[k].length - min torn.toNat parts[k].length : Nat) : Int)) rfl rfl (w64e (by omega) (by omega) (by omega))) ?_
              refine WL_val rfl (PE_sliceTo (h := parts[k].length - min torn.toNat parts[k].length) und_sl_uint8 te_uint8.size rfl rfl rfl (by omega)) ?_
              have hz : BySl I2 (.slice a1 (parts[k].length - min torn.toNat parts[k].length) c1) (crashPart keep torn (lastS keep parts.length) k parts[k]) := by
                rw [crashPart, if_pos hst, if_pos ⟨hkn, htp⟩]
                exact BySl.take hul (by omega)
              refine WL_val rfl (PE_assign rfl) ?_
              refine WL_nil ?_
              refine QA_block_normal ?_
              exact QA_join _ ⟨_, rfl, IM.le.refl _, rfl, hz⟩ (by repeat (first | exact .nil | refine .cons rfl ?_))
            · have c5' := c5
              refine CW_skip ?_
              refine QA_block_normal ?_
              exact QA_join _ ⟨_, rfl, IM.le.refl _, rfl, by rw [crashPart, if_pos hst, if_neg (by rw [c5'] at *; simp_all)]; exact hul⟩ (by repeat (first | exact .nil | refine .cons rfl ?_))
          · skip
            refine CW_region (l := [_, _, _, _, _, _, _, _]) ?_
            refine WL_val rfl (PE_move rfl) ?_
            refine WL_val rfl (PE_move rfl) ?_
            refine WL_val rfl (PE_eqi (b := false) rfl rfl (by simp; omega)) ?_
            refine WL_val rfl (PE_move rfl) ?_
            refine WL_gskip rfl rfl rfl (by decide) rfl ?_
            refine WL_gskip rfl rfl rfl (by decide) rfl ?_
            refine WL_val rfl (PE_pick rfl (fun _ => rfl) (fun _ => rfl)) ?_
            refine WL_val rfl (PE_assign rfl) ?_
            refine WL_nil ?_
            refine QA_seq ?_
            refine CW_false rfl ?_
            refine CW_skip ?_
            refine QA_block_normal ?_
            exact QA_join _ ⟨_, rfl, IM.le.refl _, rfl, by rw [crashPart, if_pos hst, if_neg (by omega)]; exact hul⟩ (by repeat (first | exact .nil | refine .cons rfl ?_))
      · rintro _ I3 _ ⟨pw, rfl, hI3, rfl, hpw⟩
        refine CW_region (l := [_, _, _, _, _, _, _, _, _, _]) ?_
        refine WL_val rfl (PE_move rfl) ?_
        refine WL_val rfl (PE_move rfl) ?_
        refine WL_val rfl (PE_nilCheck rfl) ?_
        refine WL_val rfl (PE_fieldAddr fa_disk_file_0 rfl) ?_
        refine WL_val rfl (PE_load tc_sl_uint8 rfl (.own g1 rfl)) ?_
        refine WL_val rfl (PE_move rfl) ?_
        obtain ⟨ah0, go, gk, gn⟩ := (g3.mono hI3).own
        have hpl := crashPart_len keep torn (lastS keep parts.length) k parts[k]
        refine WL_op rfl (OE_append (n := (data ++ crashTo keep torn (lastS keep parts.length) parts k).length) (m := (crashPart keep torn (lastS keep parts.length) k parts[k]).length) (vs := (data ++ crashTo keep torn (lastS keep parts.length) parts k).map bv) (us := (crashPart keep torn (lastS keep parts.length) k parts[k]).map bv) und_sl_uint8 ⟨_, und_sl_uint8⟩ te_uint8 rfl rfl rfl go (hpw.src _) (bvs_one _) (by decide) (by simp only [List.length_append]; omega) (by simp only [List.length_append]; omega)) ?_
        rintro _ I17_6 ah17_6 ⟨v17_6, rfl, hI17_6, hv17_6, hn17_6⟩
        refine WL_val rfl (PE_nilCheck rfl) ?_
        refine WL_val rfl (PE_fieldAddr fa_disk_file_0 rfl) ?_
        obtain ⟨na, nc, rfl, _⟩ := SlI.form hv17_6.sl
        refine WL_op rfl (OE_store tc_sl_uint8 rfl rfl rfl (Own.base hv17_6 f _ (gk f _ g1 (by rw [g2]; simp))) (by simp)) ?_
        rintro _ I17_9 ah17_9 ⟨rfl, rfl, rfl⟩
        refine WL_nil ?_
        refine QA_block_normal ?_
        obtain ⟨ρ'', hr, he, _⟩ := Rgt.of (S := fun r => r = .dat f) (OwnB.of hv17_6 rfl) gk gn rfl
        have he' := he f _ g1 (by rw [g2]; simp)
        rw [List.set_cons_zero]
        exact QA_next _ ⟨ρ'', rfl, hI2.trans (hI3.trans hI17_6), hev.trans ((he.mono (by rintro r rfl; exact .inr (.inl rfl))).trans (Evo.set _ (by rw [he'.2, g2]; exact .inl rfl))), by rw [crashTo, ← List.append_assoc, show parts.getD k [] = parts[k] by simp [List.getD, List.getElem?_eq_getElem hkp]]; exact FileAt.put (he'.2.trans g2) hr ((g4.mono (hI3.trans hI17_6)).evo he (by simp)) (g5.mono (hI3.trans hI17_6))⟩ (by repeat (first | exact .nil | refine .cons rfl ?_))
    · rintro e I2 A' ⟨ρ', rfl, hI2, hev, hf2⟩
      obtain ⟨dv', tv', pvs', g1, g2, g3, g4, g5⟩ := hf2
      refine QA_seq ?_
      refine CW_region (l := [_, _, _, _]) ?_
      refine WL_val rfl (PE_move rfl) ?_
      refine WL_val rfl (PE_nilCheck rfl) ?_
      refine WL_val rfl (PE_fieldAddr fa_disk_file_1 rfl) ?_
      refine WL_op rfl (OE_store tc_sl_sl_uint8 rfl rfl rfl g1 (by simp)) ?_
      rintro _ I19_3 ah19_3 ⟨rfl, rfl, rfl⟩
      refine WL_nil ?_
      refine QA_end (rs := []) rfl rfl (hI2) (_) (fun _ _ h => h) ?_
      rw [List.set_cons_succ, List.set_cons_zero]
      exact ⟨ρ', hev0.trans (hev.trans (Evo.set _ (by rw [g2]; exact .inl rfl))), FileAt.put g2 g3 (Rgt.nil _ _ _ _) (Rows.nil _)⟩

end Go.Proofs.YthdpebagkfloaaaDoor

