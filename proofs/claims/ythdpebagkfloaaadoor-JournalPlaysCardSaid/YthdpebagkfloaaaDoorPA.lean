/- disk: names, questions. -/
import Derived.Test.YthdpebagkfloaaaDoorFacts
namespace Go.Proofs.YthdpebagkfloaaaDoor
open Go Go.RowKit SL
set_option linter.unusedVariables false
set_option maxRecDepth 100000
def okb (b : UInt8) : Bool := !decide ((b.toNat : Int) < 33) && !decide ((126 : Int) < b.toNat)
def goodName (l : List UInt8) : Bool := l.all okb && decide (1 ≤ l.length) && decide (l.length ≤ 20)
theorem take_all_step (s : ByteArray) (k : Nat) (hk : k < s.size) (h : (s.data.toList.take k).all okb = true) : (s.data.toList.take (k + 1)).all okb = okb s[k] := by
  rw [List.take_succ_eq_append_getElem (by simpa using hk), List.all_append, h]
  simp; rfl
theorem all_false (s : ByteArray) (k : Nat) (hk : k < s.size) (h : okb s[k] = false) : s.data.toList.all okb = false := by
  have hk' : k < s.data.toList.length := by simpa using hk
  rw [← Bool.not_eq_true]
  intro ha
  rw [List.all_eq_true] at ha
  have := ha (s.data.toList[k]) (List.getElem_mem hk')
  have e : s.data.toList[k] = s[k] := rfl
  rw [e, h] at this; cases this

theorem good_spec (w0 : World) (I : IM) (ah : AH) (s : ByteArray) (hs : s.size < 9223372036854775808) :
    SC P w0 n_disk_good [.string s] I ah (fun v I' ah' => I = I' ∧ ah = ah' ∧ v = .bool (goodName s.data.toList)) := by
  refine SC_enter fn_disk_good rfl rfl (Nat.le_of_ble_eq_true rfl) ?_
  refine CW_seq ?_
  refine CW_region (l := [_]) ?_
  refine WL_val rfl (PE_assign rfl) ?_
  refine WL_nil ?_
  refine QA_seq ?_
  refine CW_seq ?_
  refine CW_seq ?_
  refine CW_region (l := [_, _, _]) ?_
  refine WL_val rfl (PE_move rfl) ?_
  refine WL_val rfl (PE_lenS und_string rfl) ?_
  refine WL_val rfl (PE_move rfl) ?_
  refine WL_nil ?_
  refine QA_seq ?_
  refine CW_for (s.size) (by omega) (fun k e I' ah' => e = [(0, .string s)] ∧ I = I' ∧ ah = ah' ∧ (s.data.toList.take k).all okb = true) ([(0, .string s)]) (⟨rfl, rfl, rfl, rfl⟩) (by repeat (first | exact .nil | refine .cons rfl ?_)) (by rintro k e I ah ⟨rfl, _⟩; exact ⟨rfl, rfl, rfl, rfl⟩) rfl rfl rfl rfl ?_ ?_
  · rintro k e I ah hk ⟨rfl, rfl, rfl, hall⟩
    have hstep := take_all_step s k hk hall
    refine CW_block ?_
    refine CW_seq ?_
    refine CW_region (l := [_, _]) ?_
    refine WL_val rfl (PE_move rfl) ?_
    refine WL_val rfl (PE_assign rfl) ?_
    refine WL_nil ?_
    refine QA_seq ?_
    refine CW_seq ?_
    by_cases hlo : ((s[k].toNat : Nat) : Int) < 33
    · skip
      refine CW_region (l := [_, _, _, _, _, _, _, _, _, _]) ?_
      refine WL_val rfl (PE_move rfl) ?_
      refine WL_val rfl (PE_move rfl) ?_
      refine WL_val rfl (PE_indexS und_string rfl rfl rfl hk) ?_
      refine WL_val rfl (PE_lss (b := true) rfl rfl (by simp [hlo])) ?_
      refine WL_val rfl (PE_move rfl) ?_
      refine WL_gskip rfl rfl rfl (by decide) rfl ?_
      refine WL_gskip rfl rfl rfl (by decide) rfl ?_
      refine WL_gskip rfl rfl rfl (by decide) rfl ?_
      refine WL_gskip rfl rfl rfl (by decide) rfl ?_
      refine WL_val rfl (PE_pick rfl (fun _ => rfl) (fun _ => rfl)) ?_
      refine WL_nil ?_
      refine QA_seq ?_
      refine CW_true rfl ?_
      refine CW_seq ?_
      refine CW_region (l := [_]) ?_
      refine WL_val rfl (PE_assign rfl) ?_
      refine WL_nil ?_
      refine QA_seq ?_
      refine CW_ret ?_
      refine QA_block_ret ?_
      refine QA_then_ret ?_
      refine QA_block_ret ?_
      refine QA_then_ret ?_
      refine QA_return (rs := [_]) rfl rfl (IM.le.refl _) (_) (fun _ _ h => h) ?_
      exact ⟨rfl, rfl, by rw [goodName, all_false s k hk (by simp [okb, hlo])]; rfl⟩
    · skip
      refine CW_region (l := [_, _, _, _, _, _, _, _, _, _]) ?_
      refine WL_val rfl (PE_move rfl) ?_
      refine WL_val rfl (PE_move rfl) ?_
      refine WL_val rfl (PE_indexS und_string rfl rfl rfl hk) ?_
      refine WL_val rfl (PE_lss (b := false) rfl rfl (by simp [hlo])) ?_
      refine WL_val rfl (PE_move rfl) ?_
      refine WL_gon rfl rfl rfl ?_
      refine WL_val rfl (PE_move rfl) ?_
      refine WL_gon rfl rfl rfl ?_
      refine WL_val rfl (PE_move rfl) ?_
      refine WL_gon rfl rfl rfl ?_
      refine WL_val rfl (PE_indexS und_string rfl rfl rfl hk) ?_
      refine WL_gon rfl rfl rfl ?_
      refine WL_val rfl (PE_gtr rfl rfl rfl) ?_
      refine WL_val rfl (PE_pick rfl (fun _ => rfl) (fun _ => rfl)) ?_
      refine WL_nil ?_
      refine QA_seq ?_
      refine CW_cond rfl (fun c3 => ?_) (fun c3 => ?_)
      · skip
        refine CW_seq ?_
        refine CW_region (l := [_]) ?_
        refine WL_val rfl (PE_assign rfl) ?_
        refine WL_nil ?_
        refine QA_seq ?_
        refine CW_ret ?_
        refine QA_block_ret ?_
        refine QA_then_ret ?_
        refine QA_block_ret ?_
        refine QA_then_ret ?_
        refine QA_return (rs := [_]) rfl rfl (IM.le.refl _) (_) (fun _ _ h => h) ?_
        exact ⟨rfl, rfl, by rw [goodName, all_false s k hk (by simp [okb, c3])]; rfl⟩
      · skip
        refine CW_skip ?_
        refine QA_block_normal ?_
        exact QA_next [(0, .string s)] ⟨rfl, rfl, rfl, by rw [hstep]; simp [okb, hlo, c3]⟩ (by repeat (first | exact .nil | refine .cons rfl ?_))
  · rintro e I ah ⟨rfl, rfl, rfl, hall⟩
    have hall' : s.data.toList.all okb = true := by rwa [List.take_of_length_le (by simp)] at hall
    refine QA_seq ?_
    refine CW_seq ?_
    by_cases h1 : 1 ≤ s.size
    · skip
      refine CW_region (l := [_, _, _, _, _, _, _, _, _]) ?_
      refine WL_val rfl (PE_move rfl) ?_
      refine WL_val rfl (PE_lenS und_string rfl) ?_
      refine WL_val rfl (PE_geq (b := true) rfl rfl (by simp; omega)) ?_
      refine WL_val rfl (PE_move rfl) ?_
      refine WL_gon rfl rfl rfl ?_
      refine WL_val rfl (PE_move rfl) ?_
      refine WL_gon rfl rfl rfl ?_
      refine WL_val rfl (PE_lenS und_string rfl) ?_
      refine WL_gon rfl rfl rfl ?_
      refine WL_val rfl (PE_leq rfl rfl rfl) ?_
      refine WL_val rfl (PE_pick rfl (fun _ => rfl) (fun _ => rfl)) ?_
      refine WL_val rfl (PE_assign rfl) ?_
      refine WL_nil ?_
      refine QA_seq ?_
      refine CW_ret ?_
      refine QA_return (rs := [_]) rfl rfl (IM.le.refl _) (_) (fun _ _ h => h) ?_
      exact ⟨rfl, rfl, by simp [packRes, goodName, hall', h1]; omega⟩
    · skip
      refine CW_region (l := [_, _, _, _, _, _, _, _, _]) ?_
      refine WL_val rfl (PE_move rfl) ?_
      refine WL_val rfl (PE_lenS und_string rfl) ?_
      refine WL_val rfl (PE_geq (b := false) rfl rfl (by simp; omega)) ?_
      refine WL_val rfl (PE_move rfl) ?_
      refine WL_gskip rfl rfl rfl (by decide) rfl ?_
      refine WL_gskip rfl rfl rfl (by decide) rfl ?_
      refine WL_gskip rfl rfl rfl (by decide) rfl ?_
      refine WL_val rfl (PE_pick rfl (fun _ => rfl) (fun _ => rfl)) ?_
      refine WL_val rfl (PE_assign rfl) ?_
      refine WL_nil ?_
      refine QA_seq ?_
      refine CW_ret ?_
      refine QA_return (rs := [_]) rfl rfl (IM.le.refl _) (_) (fun _ _ h => h) ?_
      exact ⟨rfl, rfl, by simp [packRes, goodName, h1]⟩

end Go.Proofs.YthdpebagkfloaaaDoor

