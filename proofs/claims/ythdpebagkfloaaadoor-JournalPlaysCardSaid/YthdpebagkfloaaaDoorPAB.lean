/- law 14: awake. -/
import Derived.Test.YthdpebagkfloaaaDoorPAA
namespace Go.Proofs.YthdpebagkfloaaaDoor
open Go Go.RowKit SL
set_option linter.unusedVariables false
set_option linter.unusedSimpArgs false
set_option maxRecDepth 100000
namespace SL
section
variable {C : Cx} {env : Env} {I : IM} {ah : AH} {d ty : Nat} {ps : String} {af : Array Edge}
/-- A row of bytes that is new, turned into its own type: from now on it stays. -/
theorem OE_convLL {t e b n : Nat} {x : Operand} {vs : List Value} (ht : C.P.underlying t = some (.slice e)) (he1 : C.P.underlying e = some (.int .u8)) (hd : Nat.blt d C.n = true) (hx : opv env x = some (.slice (some ⟨b, 0, none⟩) n n)) (hb : ah b = some (.cells vs)) (hn : vs.length = n) :
    OE C env I ah ⟨some d, .convert t t x, ty, ps, af, none⟩ (fun e' I' ah' => (d, .slice (some ⟨b, 0, none⟩) n n) :: env = e' ∧ IM.le I I' ∧ SlI I' (.slice (some ⟨b, 0, none⟩) n n) 1 n vs ∧ ah.del b = ah') :=
  OE_ex hd (fun a w he hs => by
    obtain ⟨hsz, T, hh⟩ := hs.own b _ hb
    have hfr := hs.freeze hb
    have hnone : (ah.del b) b = none := by simp [AH.del]
    have hsh : w.shape? b = some (T, vs.length) := by
      unfold World.shape?
      rw [hh]; simp
    refine ⟨.slice (some ⟨b, 0, none⟩) n n, w.freeze ⟨b, vs.length, none⟩ 1, I.add b 0 vs, ah.del b, ?_, hfr.frz hnone hsz vs.length 1, rfl, IM.le_add _ _ _ _ (fun o _ => hs.freeI hb o), ?_, rfl⟩
    · simp only [execOp, he.eval hx, convert, Sem.run_bind, run_underlying ht, run_underlying he1, Result.andThen_ok]
      simp only [beq_self_eq_true, markStringish, Sem.run_bind, run_shape, Result.andThen_ok, hsh]
      rfl
    · refine .inr ⟨b, 0, n, rfl, Nat.le_refl _, by omega, fun j u hj => ?_⟩
      have := IM.add_at I b 0 vs j (List.getElem?_eq_some_iff.1 hj).1
      rw [this]; exact hj)
end
end SL
theorem Rows.one {I : IM} {u v : Value} {l : List UInt8} (h : BySl I u l) (hv : SlI I v 1 1 [u]) : ByRows I v [l] := Rows.by ((Rows.nil I).snoc h) hv
def outR : Roles := fun _ => .out
theorem out_sub {S : Role → Prop} {ah ah' : AH} {ρ' : Roles} (e : Evo S outR ah ρ' ah') (hS : ¬ S .out) : ∀ b x, ah b = some x → ah' b = some x := fun b x h => (e b x h hS).1

theorem awake_spec (w0 : World) (I : IM) (ah : AH) :
    SC P w0 n_bandboxlaw14_awake [] I ah (fun v I' ah' => ah = ah' ∧ v = .bool true) := by
  refine SC_enter fn_bandboxlaw14_awake rfl rfl (Nat.le_of_ble_eq_true rfl) ?_
  refine CW_seq ?_
  refine CW_region (l := [_]) ?_
  refine WL_val rfl (PE_assign rfl) ?_
  refine WL_nil ?_
  refine QA_seq ?_
  refine CW_seq ?_
  refine CW_region (l := [_, _, _, _, _, _]) ?_
  refine WL_op rfl (OE_call (l := [_]) E_disk_New rfl rfl (l_new (ρ := outR) 10000 (by omega) (by omega))) ?_
  rintro _ I1_0 ah1_0 ⟨_, rfl, hI1, _, d, ρ1, rfl, he1, hd1⟩
  refine WL_val rfl (PE_move rfl) ?_
  refine WL_val rfl (PE_extract rfl rfl) ?_
  refine WL_val rfl (PE_extract rfl rfl) ?_
  refine WL_val rfl (PE_assign rfl) ?_
  refine WL_val rfl (PE_assign rfl) ?_
  refine WL_nil ?_
  refine QA_seq ?_
  refine CW_seq ?_
  refine CW_region (l := [_, _, _, _, _, _, _]) ?_
  refine WL_val rfl (PE_move rfl) ?_
  refine WL_op rfl (OE_call (l := [_]) E_journal_Open rfl rfl (l_open hd1)) ?_
  rintro _ I2_1 ah2_1 ⟨_, rfl, hI2, _, j, ρ2, s2, rfl, he2, hj2, hr2, hb2, ht2, hp2⟩
  refine WL_val rfl (PE_move rfl) ?_
  refine WL_val rfl (PE_extract rfl rfl) ?_
  refine WL_val rfl (PE_extract rfl rfl) ?_
  refine WL_val rfl (PE_assign rfl) ?_
  refine WL_val rfl (PE_assign rfl) ?_
  refine WL_nil ?_
  refine QA_seq ?_
  refine CW_seq ?_
  refine CW_seq ?_
  refine CW_region (l := [_, _, _, _, _, _]) ?_
  refine WL_val rfl (PE_move rfl) ?_
  refine WL_val rfl (PE_nei rfl rfl rfl) ?_
  refine WL_val rfl (PE_move rfl) ?_
  refine WL_gon rfl rfl rfl ?_
  refine WL_val rfl (PE_move rfl) ?_
  refine WL_gon rfl rfl rfl ?_
  refine WL_val rfl (PE_eqpn und_p_journal_Journal rfl rfl rfl) ?_
  refine WL_val rfl (PE_pick rfl (fun _ => rfl) (fun _ => rfl)) ?_
  refine WL_nil ?_
  refine QA_seq ?_
  refine CW_false rfl ?_
  refine CW_skip ?_
  refine QA_seq ?_
  refine CW_seq ?_
  refine CW_region (l := [_, _, _, _, _, _, _, _, _, _, _, _, _, _, _]) ?_
  refine WL_val rfl (PE_move rfl) ?_
  refine WL_op rfl (OE_lit (l := [_]) (vs := [_]) und_sl_uint8 te_uint8 rfl rfl rfl (by simp [Value.cells]) (by decide) rfl) ?_
  rintro _ I5_1 ah5_1 ⟨b5_1, rfl, rfl, rfl, hb5_1, hw5_1⟩
  refine WL_op rfl (OE_convLL und_sl_uint8 und_uint8 rfl rfl (AH.set_same _ _ _) rfl) ?_
  rintro _ I5_2 ah5_2 ⟨rfl, hIc5_1, hvc5_1, rfl⟩
  rw [AH.del_set, AH.del_none _ hb5_1]
  refine WL_op rfl (OE_litI (l := [_]) (vs := [_]) und_sl_sl_uint8 te_sl_uint8 rfl rfl rfl (by simp [Value.cells]) (by decide) rfl rfl) ?_
  rintro _ I5_3 ah5_3 ⟨v5_3, rfl, hI5_3, rfl, hv5_3, hn5_3⟩
  refine WL_op rfl (OE_call (l := [_, _]) E_journal_Journal_Add rfl rfl (l_add (ls := [[120]]) (hj2.mono (hIc5_1.trans hI5_3)) (Rows.one (BySl.mono hvc5_1 hI5_3) hv5_3) (by simp) (by simp [frSz]) (by simp [hr2]))) ?_
  rintro _ I5_4 ah5_4 ⟨_, rfl, hI54, _, rfl, ρ54, he54, hj54⟩
  refine WL_val rfl (PE_move rfl) ?_
  refine WL_op rfl (OE_call (l := [_]) E_journal_Journal_Sync rfl rfl (l_sync hj54)) ?_
  rintro _ I5_6 ah5_6 ⟨_, rfl, hI56, _, rfl, ρ56, he56, hj56⟩
  refine WL_val rfl (PE_move rfl) ?_
  refine WL_op rfl (OE_lit (l := [_]) (vs := [_]) und_sl_uint8 te_uint8 rfl rfl rfl (by simp [Value.cells]) (by decide) rfl) ?_
  rintro _ I5_8 ah5_8 ⟨b5_8, rfl, rfl, rfl, hb5_8, hw5_8⟩
  refine WL_op rfl (OE_convLL und_sl_uint8 und_uint8 rfl rfl (AH.set_same _ _ _) rfl) ?_
  rintro _ I5_9 ah5_9 ⟨rfl, hIc5_8, hvc5_8, rfl⟩
  rw [AH.del_set, AH.del_none _ hb5_8]
  refine WL_op rfl (OE_litI (l := [_]) (vs := [_]) und_sl_sl_uint8 te_sl_uint8 rfl rfl rfl (by simp [Value.cells]) (by decide) rfl rfl) ?_
  rintro _ I5_10 ah5_10 ⟨v5_10, rfl, hI5_10, rfl, hv5_10, hn5_10⟩
  refine WL_op rfl (OE_call (l := [_, _]) E_journal_Journal_Add rfl rfl (l_add (ls := [[121]]) (hj56.mono (hIc5_8.trans hI5_10)) (Rows.one (BySl.mono hvc5_8 hI5_10) hv5_10) (by simp) (by simp [frSz]) (by simp [addJ, hr2]))) ?_
  rintro _ I5_11 ah5_11 ⟨_, rfl, hI5b, _, rfl, ρ5b, he5b, hj5b⟩
  have hrec : (addJ (addJ s2 [[120]]) [[121]]).recs = [[120], [121]] := by simp [addJ, hr2]
  refine WL_val rfl (PE_assign rfl) ?_
  refine WL_val rfl (PE_assign rfl) ?_
  refine WL_val rfl (PE_assign rfl) ?_
  refine WL_nil ?_
  refine QA_seq ?_
  refine CW_seq ?_
  refine CW_region (l := [_, _, _]) ?_
  refine WL_val rfl (PE_move rfl) ?_
  refine WL_op rfl (OE_call (l := [_]) E_journal_Journal_All rfl rfl (l_all hj5b (by rw [hrec]; simp))) ?_
  rintro _ I6_1 ah6_1 ⟨v61, rfl, hI61, rfl, hr61⟩
  rw [hrec] at hr61
  refine WL_val rfl (PE_assign rfl) ?_
  refine WL_nil ?_
  refine QA_seq ?_
  refine CW_seq ?_
  refine CW_region (l := [_, _]) ?_
  refine WL_val rfl (PE_move rfl) ?_
  refine WL_op rfl (OE_call (l := [_, _, _]) E_disk_Disk_Crash rfl rfl (l_crash (hj5b.mono hI61) (by have : (addJ (addJ s2 [[120]]) [[121]]).part = s2.part := rfl; omega) 0 (by omega) 0 (by omega))) ?_
  rintro _ I7_1 ah7_1 ⟨_, rfl, hI71, _, ρ71, m, n, he71, hd71, hm1, hm2, hn71, hk0, hj71⟩
  obtain rfl : m = 1 := by rw [hk0 rfl]; simp [addJ, hr2]
  rw [hrec, show ([[120], [121]] : List (List UInt8)).take 1 = [[120]] from rfl] at hd71
  refine WL_nil ?_
  refine QA_seq ?_
  refine CW_seq ?_
  refine CW_region (l := [_, _]) ?_
  refine WL_val rfl (PE_move rfl) ?_
  refine WL_op rfl (OE_call (l := [_]) E_disk_Disk_On rfl rfl (l_on hd71 (by omega))) ?_
  rintro _ I8_1 ah8_1 ⟨_, rfl, hI81, _, he81, hd81⟩
  refine WL_nil ?_
  refine QA_seq ?_
  refine CW_seq ?_
  refine CW_region (l := [_, _, _, _, _, _, _]) ?_
  refine WL_val rfl (PE_move rfl) ?_
  refine WL_op rfl (OE_call (l := [_]) E_journal_Open rfl rfl (l_open hd81)) ?_
  rintro _ I9_1 ah9_1 ⟨_, rfl, hI91, _, k, ρ91, s9, rfl, he91, hj91, hr9, hb9, ht9, hp9⟩
  have hb9' : s9.base = [] := by rw [hb9]; exact hb2
  refine WL_val rfl (PE_move rfl) ?_
  refine WL_val rfl (PE_extract rfl rfl) ?_
  refine WL_val rfl (PE_extract rfl rfl) ?_
  refine WL_val rfl (PE_assign rfl) ?_
  refine WL_val rfl (PE_assign rfl) ?_
  refine WL_nil ?_
  refine QA_seq ?_
  refine CW_seq ?_
  refine CW_seq ?_
  refine CW_region (l := [_, _, _, _, _, _]) ?_
  refine WL_val rfl (PE_move rfl) ?_
  refine WL_val rfl (PE_nei rfl rfl rfl) ?_
  refine WL_val rfl (PE_move rfl) ?_
  refine WL_gon rfl rfl rfl ?_
  refine WL_val rfl (PE_move rfl) ?_
  refine WL_gon rfl rfl rfl ?_
  refine WL_val rfl (PE_eqpn und_p_journal_Journal rfl rfl rfl) ?_
  refine WL_val rfl (PE_pick rfl (fun _ => rfl) (fun _ => rfl)) ?_
  refine WL_nil ?_
  refine QA_seq ?_
  refine CW_false rfl ?_
  refine CW_skip ?_
  refine QA_seq ?_
  refine CW_seq ?_
  refine CW_region (l := [_, _, _, _, _, _, _, _, _, _, _, _, _, _, _, _, _, _, _, _, _, _, _, _, _, _, _, _, _, _, _, _, _, _]) ?_
  refine WL_val rfl (PE_move rfl) ?_
  refine WL_val rfl (PE_eqi rfl rfl rfl) ?_
  refine WL_val rfl (PE_move rfl) ?_
  refine WL_gon rfl rfl rfl ?_
  refine WL_val rfl (PE_move rfl) ?_
  refine WL_gon rfl rfl rfl ?_
  refine WL_val rfl (PE_eqi rfl rfl rfl) ?_
  refine WL_val rfl (PE_pick rfl (fun _ => rfl) (fun _ => rfl)) ?_
  refine WL_val rfl (PE_move rfl) ?_
  refine WL_gon rfl rfl rfl ?_
  refine WL_val rfl (PE_move rfl) ?_
  refine WL_gon rfl rfl rfl ?_
  refine WL_val rfl (PE_eqi rfl rfl rfl) ?_
  refine WL_val rfl (PE_pick rfl (fun _ => rfl) (fun _ => rfl)) ?_
  refine WL_val rfl (PE_move rfl) ?_
  refine WL_gon rfl rfl rfl ?_
  refine WL_val rfl (PE_move rfl) ?_
  refine WL_gon rfl rfl rfl ?_
  refine WL_op rfl (OE_lit (l := [_]) (vs := [_]) und_sl_uint8 te_uint8 rfl rfl rfl (by simp [Value.cells]) (by decide) rfl) ?_
  rintro _ I12_12 ah12_12 ⟨b12_12, rfl, rfl, rfl, hb12_12, hw12_12⟩
  refine WL_gon rfl rfl rfl ?_
  refine WL_op rfl (OE_convLL und_sl_uint8 und_uint8 rfl rfl (AH.set_same _ _ _) rfl) ?_
  rintro _ I12_13 ah12_13 ⟨rfl, hIc12_12, hvc12_12, rfl⟩
  rw [AH.del_set, AH.del_none _ hb12_12]
  refine WL_gon rfl rfl rfl ?_
  refine WL_op rfl (OE_lit (l := [_]) (vs := [_]) und_sl_uint8 te_uint8 rfl rfl rfl (by simp [Value.cells]) (by decide) rfl) ?_
  rintro _ I12_14 ah12_14 ⟨b12_14, rfl, rfl, rfl, hb12_14, hw12_14⟩
  refine WL_gon rfl rfl rfl ?_
  refine WL_op rfl (OE_convLL und_sl_uint8 und_uint8 rfl rfl (AH.set_same _ _ _) rfl) ?_
  rintro _ I12_15 ah12_15 ⟨rfl, hIc12_14, hvc12_14, rfl⟩
  rw [AH.del_set, AH.del_none _ hb12_14]
  refine WL_gon rfl rfl rfl ?_
  refine WL_op rfl (OE_litI (l := [_, _]) (vs := [_, _]) und_sl_sl_uint8 te_sl_uint8 rfl rfl rfl (by simp [Value.cells]) (by decide) rfl rfl) ?_
  rintro _ I12_16 ah12_16 ⟨v12_16, rfl, hI12_16, rfl, hv12_16, hn12_16⟩
  refine WL_gon rfl rfl rfl ?_
  refine WL_op rfl (OE_call (l := [_, _]) E_bandboxlaw14_same rfl rfl (same_spec _ _ _ _ _ [[120], [121]] [[120], [121]] (hr61.mono (((((hI71.trans hI81).trans hI91).trans hIc12_12).trans hIc12_14).trans hI12_16)) (Rows.two (BySl.mono hvc12_12 (hIc12_14.trans hI12_16)) (BySl.mono hvc12_14 hI12_16) hv12_16) (by simp) (by simp))) ?_
  rintro _ I12_17 ah12_17 ⟨_, rfl, _, rfl, rfl, rfl⟩
  rw [decide_eq_true rfl]
  refine WL_val rfl (PE_pick rfl (fun _ => rfl) (fun _ => rfl)) ?_
  refine WL_val rfl (PE_move rfl) ?_
  refine WL_gon rfl rfl rfl ?_
  refine WL_val rfl (PE_move rfl) ?_
  refine WL_gon rfl rfl rfl ?_
  refine WL_op rfl (OE_call (l := [_]) E_journal_Journal_All rfl rfl (l_all (hj91.mono ((hIc12_12.trans hIc12_14).trans hI12_16)) (by rw [hr9]; simp))) ?_
  rintro _ I12_21 ah12_21 ⟨v1221, rfl, hI1221, rfl, hr1221⟩
  rw [hr9] at hr1221
  refine WL_gon rfl rfl rfl ?_
  refine WL_op rfl (OE_lit (l := [_]) (vs := [_]) und_sl_uint8 te_uint8 rfl rfl rfl (by simp [Value.cells]) (by decide) rfl) ?_
  rintro _ I12_22 ah12_22 ⟨b12_22, rfl, rfl, rfl, hb12_22, hw12_22⟩
  refine WL_gon rfl rfl rfl ?_
  refine WL_op rfl (OE_convLL und_sl_uint8 und_uint8 rfl rfl (AH.set_same _ _ _) rfl) ?_
  rintro _ I12_23 ah12_23 ⟨rfl, hIc12_22, hvc12_22, rfl⟩
  rw [AH.del_set, AH.del_none _ hb12_22]
  refine WL_gon rfl rfl rfl ?_
  refine WL_op rfl (OE_litI (l := [_]) (vs := [_]) und_sl_sl_uint8 te_sl_uint8 rfl rfl rfl (by simp [Value.cells]) (by decide) rfl rfl) ?_
  rintro _ I12_24 ah12_24 ⟨v12_24, rfl, hI12_24, rfl, hv12_24, hn12_24⟩
  refine WL_gon rfl rfl rfl ?_
  refine WL_op rfl (OE_call (l := [_, _]) E_bandboxlaw14_same rfl rfl (same_spec _ _ _ _ _ [[120]] [[120]] (hr1221.mono (hIc12_22.trans hI12_24)) (Rows.one (BySl.mono hvc12_22 hI12_24) hv12_24) (by simp) (by simp))) ?_
  rintro _ I12_25 ah12_25 ⟨_, rfl, _, rfl, rfl, rfl⟩
  rw [decide_eq_true rfl]
  refine WL_val rfl (PE_pick rfl (fun _ => rfl) (fun _ => rfl)) ?_
  refine WL_val rfl (PE_move rfl) ?_
  refine WL_gon rfl rfl rfl ?_
  refine WL_val rfl (PE_move rfl) ?_
  refine WL_gon rfl rfl rfl ?_
  refine WL_op rfl (OE_call (l := [_]) E_journal_Journal_Base rfl rfl (l_base (hj91.mono ((((hIc12_12.trans hIc12_14).trans hI12_16).trans hI1221).trans (hIc12_22.trans hI12_24))))) ?_
  rintro _ I12_29 ah12_29 ⟨v1229, rfl, hI1229, rfl, hb1229⟩
  rw [hb9'] at hb1229
  obtain ⟨ba, bc, rfl, _⟩ := hb1229.form
  refine WL_gon rfl rfl rfl ?_
  refine WL_val rfl (PE_len und_sl_uint8 rfl) ?_
  refine WL_gon rfl rfl rfl ?_
  refine WL_val rfl (PE_eqi rfl rfl rfl) ?_
  refine WL_val rfl (PE_pick rfl (fun _ => rfl) (fun _ => rfl)) ?_
  refine WL_val rfl (PE_assign rfl) ?_
  refine WL_nil ?_
  refine QA_seq ?_
  refine CW_ret ?_
  refine QA_return (rs := [_]) rfl rfl (hI1.trans (hI2.trans ((hIc5_1.trans hI5_3).trans (hI54.trans (hI56.trans ((hIc5_8.trans hI5_10).trans (hI5b.trans (hI61.trans (hI71.trans (hI81.trans (hI91.trans (((((hIc12_12.trans hIc12_14).trans hI12_16).trans hI1221).trans (hIc12_22.trans hI12_24)).trans hI1229)))))))))))) (ah) (out_sub (S := ofJ) ((he1.mono (fun _ h => h.elim)).trans (he2.trans (he54.trans (he56.trans (he5b.trans ((he71.mono ofD_J).trans ((he81.mono ofD_J).trans he91))))))) (by simp [ofJ])) ?_
  exact ⟨rfl, rfl⟩

end Go.Proofs.YthdpebagkfloaaaDoor

