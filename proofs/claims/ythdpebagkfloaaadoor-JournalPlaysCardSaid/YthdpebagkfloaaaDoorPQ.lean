/- journal: what it is in memory; Done, Base, All, failed; a guarded call in a drawn region. -/
import Derived.Test.YthdpebagkfloaaaDoorPP
namespace Go.Proofs.YthdpebagkfloaaaDoor
open Go Go.RowKit SL
set_option linter.unusedVariables false
set_option linter.unusedSimpArgs false
set_option maxRecDepth 100000
namespace SL
theorem WA_opG {C : Cx} {ops : Array Oper} {env : Env} {I J : IM} {ah own : AH} {Q : Post} {st fuel d ty : Nat} {ps : String} {af : Array Edge} {op : Op} {listed : Array Bool} {R : Env → IM → AH → Prop} {j : Nat} {want : Bool} {oj : Oper} {dj : Nat} (i : Nat) (hi : ops[i]? = some ⟨some d, op, ty, ps, af, some (j, want)⟩)
    (hj : ops[j]? = some oj) (hdj : oj.dst = some dj) (hb : look env dj = some (.bool want)) (hr : Region.ready .any ops listed = [i])
    (h : OE C env I ah ⟨some d, op, ty, ps, af, none⟩ R) (hS : ∀ e' I' ah', R e' I' ah' → IM.le J I' ∧ ∀ b x, own b = some x → ah' b = some x)
    (k : ∀ e' I' ah', R e' I' ah' → WA C ops st J own fuel (listed.setIfInBounds i true) e' I' ah' Q) : WA C ops st J own (fuel + 1) listed env I ah Q := by
  intro a w he hs
  have hy : yielded ops a.tmps j = some want := by
    have := he.get dj _ hb
    simp [yielded, hj, hdj, this]
  refine ⟨fun h => (by rw [hr] at h; cases h), fun j' hj' => ?_⟩
  rw [hr] at hj'
  simp only [List.mem_singleton] at hj'
  subst hj'
  unfold wpOp
  have hw : Region.wanted ⟨some d, op, ty, ps, af, some (j, want)⟩ (yielded ops a.tmps) = true := by simp [Region.wanted, hy]
  simp only [hi]
  rw [if_pos hw]
  have := h a w he hs (fun a' w' => ((listed.setIfInBounds j' true).getD st false = false → Sim C.w0 J own w') ∧ wpAnyT C.P ops (noPanic Q) (Sim C.w0 J own) st fuel (listed.setIfInBounds j' true) a' w') (noPanic Q) (fun e' I' ah' a' w' hR he' hs' => ⟨fun hl => hs'.weaken (hS _ _ _ hR).1 (hS _ _ _ hR).2, k _ _ _ hR a' w' he' hs'⟩)
  exact .inl this
end SL
structure JS where
  lives : Nat
  turn : Nat
  part : Nat
  wr : Bool
  base : List UInt8
  recs : List (List UInt8)
  full : Bool
abbrev jcells (d : Nat) (s : JS) (bsv rv : Value) : List Value := [.pointer (some ⟨d, 0, none⟩), .int .i64 (s.lives : Int), .int .u64 (s.turn : Int), .int .i64 (s.part : Int), .bool s.wr, bsv, rv, .bool s.full]
/-- A journal in memory. -/
def JAt (ρ : Roles) (I : IM) (ah : AH) (j d : Nat) (s : JS) : Prop :=
  ∃ bsv rv vs, ah j = some (.cells (jcells d s bsv rv)) ∧ ρ j = .jrn ∧ BySl I bsv s.base ∧ Rgt ρ I ah .jrec rv s.recs.length vs ∧ Rows I vs s.recs
theorem JAt.mono {ρ : Roles} {I J : IM} {ah : AH} {j d : Nat} {s : JS} (h : JAt ρ I ah j d s) (hI : IM.le I J) : JAt ρ J ah j d s := by
  obtain ⟨bsv, rv, vs, h1, h2, h3, h4, h5⟩ := h
  exact ⟨bsv, rv, vs, h1, h2, h3.mono hI, h4.mono hI, h5.mono hI⟩
theorem JAt.evo {S : Role → Prop} {ρ ρ' : Roles} {I : IM} {ah ah' : AH} {j d : Nat} {s : JS} (h : JAt ρ I ah j d s) (e : Evo S ρ ah ρ' ah') (h1 : ¬ S .jrn) (h2 : ¬ S .jrec) : JAt ρ' I ah' j d s := by
  obtain ⟨bsv, rv, vs, k1, k2, k3, k4, k5⟩ := h
  obtain ⟨m1, m2⟩ := e j _ k1 (by rw [k2]; exact h1)
  exact ⟨bsv, rv, vs, m1, m2.trans k2, k3, k4.evo e h2, k5⟩
theorem JAt.dsk {ρ ρ' : Roles} {I : IM} {ah ah' : AH} {j d : Nat} {s : JS} (h : JAt ρ I ah j d s) (e : Evo ofD ρ ah ρ' ah') : JAt ρ' I ah' j d s := h.evo e (by simp [ofD]) (by simp [ofD])
theorem JAt.put {ρ : Roles} {I : IM} {ah : AH} {j d : Nat} {s : JS} {bsv rv : Value} {vs : List Value} (h2 : ρ j = .jrn) (h3 : BySl I bsv s.base) (h4 : Rgt ρ I ah .jrec rv s.recs.length vs) (h5 : Rows I vs s.recs) : JAt ρ I (ah.set j (.cells (jcells d s bsv rv))) j d s := by
  have e : Evo (fun r => r = .jrn) ρ ah ρ (ah.set j (.cells (jcells d s bsv rv))) := Evo.set _ h2
  exact ⟨bsv, rv, vs, AH.set_same _ _ _, h2, h3, h4.evo e (by simp), h5⟩
def ofR (r : Role) : Prop := r = .jrn ∨ r = .jrec
def ofJ (r : Role) : Prop := r ≠ .out
theorem ofR_J : ∀ r, ofR r → ofJ r := by rintro r (rfl | rfl) <;> simp [ofJ]
theorem ofD_J : ∀ r, ofD r → ofJ r := fun r h => h.1
theorem Dk.jrn {ρ ρ' : Roles} {I : IM} {ah ah' : AH} {d room : Nat} {on : Bool} {lives : Nat} {c : Cont} {sz : Nat} (h : Dk ρ I ah d room on lives c sz) (e : Evo ofR ρ ah ρ' ah') : Dk ρ' I ah' d room on lives c sz := h.evo e (by rintro r ⟨h1, h2, h3⟩ (k | k); exact h2 k; exact h3 k)
theorem Dk.file {ρ : Roles} {I : IM} {ah : AH} {d room : Nat} {on : Bool} {lives : Nat} {c : Cont} {sz : Nat} (h : Dk ρ I ah d room on lives c sz) (k : ByteArray) : (bytesC c k).length ≤ 1048576 := by
  obtain ⟨fs, h1, hF, _, _, rfl⟩ := h
  unfold bytesC
  cases hc : cof fs k with
  | none => simp
  | some u =>
    obtain ⟨x, hx, rfl⟩ := cof_some hc
    have := (hF.file (lookF_mem hx).1).1
    simpa [FE.co] using this

theorem done_spec (w0 : World) (I : IM) (ah : AH) (ρ : Roles) (j d room lives : Nat) (on : Bool) (c : Cont) (sz : Nat) (s : JS) (hj : JAt ρ I ah j d s) (hd : Dk ρ I ah d room on lives c sz) :
    SC P w0 n_journal_Journal_Done [.pointer (some ⟨j, 0, none⟩)] I ah (fun v I' ah' => I = I' ∧ ah = ah' ∧ v = .bool (s.full || !on || decide (lives ≠ s.lives))) := by
  obtain ⟨bsv, rv, vs, h1, h2, h3, h4, h5⟩ := hj
  obtain ⟨sl, tu, pa, wr, ba, re, full⟩ := s
  refine SC_enter fn_journal_Journal_Done rfl rfl (Nat.le_of_ble_eq_true rfl) ?_
  refine CW_seq ?_
  refine CW_region (l := [_]) ?_
  refine WL_val rfl (PE_assign rfl) ?_
  refine WL_nil ?_
  refine QA_seq ?_
  refine CW_seq ?_
  have h3c : full = true ∨ (full = false ∧ on = false) ∨ (full = false ∧ on = true) := by cases full <;> cases on <;> simp
  rcases h3c with rfl | ⟨rfl, rfl⟩ | ⟨rfl, rfl⟩
  · skip
    refine CW_drawS (l := [_, _, _, _, _, _, _, _, _, _, _, _, _, _, _, _, _, _, _, _, _, _, _, _, _]) 25 mixed ?_
    refine WA_take 0 rfl (by kernel_rfl) (by kernel_rfl) (by kernel_rfl) (by kernel_rfl) rfl (by kernel_rfl) rfl (IM.le.refl _) (fun _ _ h => h) (PE_move rfl) ?_
    refine WA_take 1 rfl (by kernel_rfl) (by kernel_rfl) (by kernel_rfl) (by kernel_rfl) rfl (by kernel_rfl) rfl (IM.le.refl _) (fun _ _ h => h) (PE_nilCheck rfl) ?_
    refine WA_take 2 rfl (by kernel_rfl) (by kernel_rfl) (by kernel_rfl) (by kernel_rfl) rfl (by kernel_rfl) rfl (IM.le.refl _) (fun _ _ h => h) (PE_fieldAddr fa_journal_Journal_7 rfl) ?_
    refine WA_take 3 rfl (by kernel_rfl) (by kernel_rfl) (by kernel_rfl) (by kernel_rfl) rfl (by kernel_rfl) rfl (IM.le.refl _) (fun _ _ h => h) (PE_load tc_bool rfl (.own h1 rfl)) ?_
    refine WA_take 4 rfl (by kernel_rfl) (by kernel_rfl) (by kernel_rfl) (by kernel_rfl) rfl (by kernel_rfl) rfl (IM.le.refl _) (fun _ _ h => h) (PE_move rfl) ?_
    refine WA_skip 5 rfl rfl rfl rfl (fun h => by cases h) (by kernel_rfl) (by kernel_rfl) (by kernel_rfl) (by kernel_rfl) rfl (by kernel_rfl) rfl (IM.le.refl _) (fun _ _ h => h) ?_
    refine WA_skip 6 rfl rfl rfl rfl (fun h => by cases h) (by kernel_rfl) (by kernel_rfl) (by kernel_rfl) (by kernel_rfl) rfl (by kernel_rfl) rfl (IM.le.refl _) (fun _ _ h => h) ?_
    refine WA_skip 7 rfl rfl rfl rfl (fun h => by cases h) (by kernel_rfl) (by kernel_rfl) (by kernel_rfl) (by kernel_rfl) rfl (by kernel_rfl) rfl (IM.le.refl _) (fun _ _ h => h) ?_
    refine WA_skip 8 rfl rfl rfl rfl (fun h => by cases h) (by kernel_rfl) (by kernel_rfl) (by kernel_rfl) (by kernel_rfl) rfl (by kernel_rfl) rfl (IM.le.refl _) (fun _ _ h => h) ?_
    refine WA_skip 9 rfl rfl rfl rfl (fun h => by cases h) (by kernel_rfl) (by kernel_rfl) (by kernel_rfl) (by kernel_rfl) rfl (by kernel_rfl) rfl (IM.le.refl _) (fun _ _ h => h) ?_
    refine WA_skip 10 rfl rfl rfl rfl (fun h => by cases h) (by kernel_rfl) (by kernel_rfl) (by kernel_rfl) (by kernel_rfl) rfl (by kernel_rfl) rfl (IM.le.refl _) (fun _ _ h => h) ?_
    refine WA_take 11 rfl (by kernel_rfl) (by kernel_rfl) (by kernel_rfl) (by kernel_rfl) rfl (by kernel_rfl) rfl (IM.le.refl _) (fun _ _ h => h) (PE_pick rfl (fun _ => rfl) (fun _ => rfl)) ?_
    refine WA_take 12 rfl (by kernel_rfl) (by kernel_rfl) (by kernel_rfl) (by kernel_rfl) rfl (by kernel_rfl) rfl (IM.le.refl _) (fun _ _ h => h) (PE_move rfl) ?_
    refine WA_skip 13 rfl rfl rfl rfl (fun h => by cases h) (by kernel_rfl) (by kernel_rfl) (by kernel_rfl) (by kernel_rfl) rfl (by kernel_rfl) rfl (IM.le.refl _) (fun _ _ h => h) ?_
    refine WA_skip 14 rfl rfl rfl rfl (fun h => by cases h) (by kernel_rfl) (by kernel_rfl) (by kernel_rfl) (by kernel_rfl) rfl (by kernel_rfl) rfl (IM.le.refl _) (fun _ _ h => h) ?_
    refine WA_skip 15 rfl rfl rfl rfl (fun h => by cases h) (by kernel_rfl) (by kernel_rfl) (by kernel_rfl) (by kernel_rfl) rfl (by kernel_rfl) rfl (IM.le.refl _) (fun _ _ h => h) ?_
    refine WA_skip 16 rfl rfl rfl rfl (fun h => by cases h) (by kernel_rfl) (by kernel_rfl) (by kernel_rfl) (by kernel_rfl) rfl (by kernel_rfl) rfl (IM.le.refl _) (fun _ _ h => h) ?_
    refine WA_skip 18 rfl rfl rfl rfl (fun h => by cases h) (by kernel_rfl) (by kernel_rfl) (by kernel_rfl) (by kernel_rfl) rfl (by kernel_rfl) rfl (IM.le.refl _) (fun _ _ h => h) ?_
    refine WA_skip 19 rfl rfl rfl rfl (fun h => by cases h) (by kernel_rfl) (by kernel_rfl) (by kernel_rfl) (by kernel_rfl) rfl (by kernel_rfl) rfl (IM.le.refl _) (fun _ _ h => h) ?_
    refine WA_skip 20 rfl rfl rfl rfl (fun h => by cases h) (by kernel_rfl) (by kernel_rfl) (by kernel_rfl) (by kernel_rfl) rfl (by kernel_rfl) rfl (IM.le.refl _) (fun _ _ h => h) ?_
    refine WA_skip 21 rfl rfl rfl rfl (fun h => by cases h) (by kernel_rfl) (by kernel_rfl) (by kernel_rfl) (by kernel_rfl) rfl (by kernel_rfl) rfl (IM.le.refl _) (fun _ _ h => h) ?_
    refine WA_skip 17 rfl rfl rfl rfl (fun h => by cases h) (by kernel_rfl) (by kernel_rfl) (by kernel_rfl) (by kernel_rfl) rfl (by kernel_rfl) rfl (IM.le.refl _) (fun _ _ h => h) ?_
    refine WA_skip 22 rfl rfl rfl rfl (fun h => by cases h) (by kernel_rfl) (by kernel_rfl) (by kernel_rfl) (by kernel_rfl) rfl (by kernel_rfl) rfl (IM.le.refl _) (fun _ _ h => h) ?_
    refine WA_take 23 rfl (by kernel_rfl) (by kernel_rfl) (by kernel_rfl) (by kernel_rfl) rfl (by kernel_rfl) rfl (IM.le.refl _) (fun _ _ h => h) (PE_pick rfl (fun _ => rfl) (fun _ => rfl)) ?_
    refine WA_take 24 rfl (by kernel_rfl) (by kernel_rfl) (by kernel_rfl) (by kernel_rfl) rfl (by kernel_rfl) rfl (IM.le.refl _) (fun _ _ h => h) (PE_assign rfl) ?_
    refine WA_done (by kernel_rfl) ?_
    refine QA_seq ?_
    refine CW_ret ?_
    refine QA_return (rs := [_]) rfl rfl (IM.le.refl _) (_) (fun _ _ h => h) ?_
    exact ⟨rfl, rfl, by simp [packRes]⟩
  · skip
    refine CW_drawS (l := [_, _, _, _, _, _, _, _, _, _, _, _, _, _, _, _, _, _, _, _, _, _, _, _, _]) 25 mixed ?_
    refine WA_take 0 rfl (by kernel_rfl) (by kernel_rfl) (by kernel_rfl) (by kernel_rfl) rfl (by kernel_rfl) rfl (IM.le.refl _) (fun _ _ h => h) (PE_move rfl) ?_
    refine WA_take 1 rfl (by kernel_rfl) (by kernel_rfl) (by kernel_rfl) (by kernel_rfl) rfl (by kernel_rfl) rfl (IM.le.refl _) (fun _ _ h => h) (PE_nilCheck rfl) ?_
    refine WA_take 2 rfl (by kernel_rfl) (by kernel_rfl) (by kernel_rfl) (by kernel_rfl) rfl (by kernel_rfl) rfl (IM.le.refl _) (fun _ _ h => h) (PE_fieldAddr fa_journal_Journal_7 rfl) ?_
    refine WA_take 3 rfl (by kernel_rfl) (by kernel_rfl) (by kernel_rfl) (by kernel_rfl) rfl (by kernel_rfl) rfl (IM.le.refl _) (fun _ _ h => h) (PE_load tc_bool rfl (.own h1 rfl)) ?_
    refine WA_take 4 rfl (by kernel_rfl) (by kernel_rfl) (by kernel_rfl) (by kernel_rfl) rfl (by kernel_rfl) rfl (IM.le.refl _) (fun _ _ h => h) (PE_move rfl) ?_
    refine WA_takeG 5 rfl rfl rfl rfl (by kernel_rfl) (by kernel_rfl) (by kernel_rfl) (by kernel_rfl) rfl (by kernel_rfl) rfl (IM.le.refl _) (fun _ _ h => h) (PE_move rfl) ?_
    refine WA_takeG 6 rfl rfl rfl rfl (by kernel_rfl) (by kernel_rfl) (by kernel_rfl) (by kernel_rfl) rfl (by kernel_rfl) rfl (IM.le.refl _) (fun _ _ h => h) (PE_nilCheck rfl) ?_
    refine WA_takeG 7 rfl rfl rfl rfl (by kernel_rfl) (by kernel_rfl) (by kernel_rfl) (by kernel_rfl) rfl (by kernel_rfl) rfl (IM.le.refl _) (fun _ _ h => h) (PE_fieldAddr fa_journal_Journal_0 rfl) ?_
    refine WA_takeG 8 rfl rfl rfl rfl (by kernel_rfl) (by kernel_rfl) (by kernel_rfl) (by kernel_rfl) rfl (by kernel_rfl) rfl (IM.le.refl _) (fun _ _ h => h) (PE_load tc_p_disk_Disk rfl (.own h1 rfl)) ?_
    refine WA_opG 9 rfl rfl rfl rfl (by kernel_rfl) (OE_call (l := [_]) E_disk_Disk_Power rfl rfl (kpower hd)) ?_ ?_
    · rintro _ I1_9 ah1_9 ⟨_, rfl, _, rfl, rfl, rfl⟩; exact ⟨IM.le.refl _, fun _ _ h => h⟩
    rintro _ I1_9 ah1_9 ⟨_, rfl, _, rfl, rfl, rfl⟩
    refine WA_takeG 10 rfl rfl rfl rfl (by kernel_rfl) (by kernel_rfl) (by kernel_rfl) (by kernel_rfl) rfl (by kernel_rfl) rfl (IM.le.refl _) (fun _ _ h => h) (PE_un rfl (rfl)) ?_
    refine WA_take 11 rfl (by kernel_rfl) (by kernel_rfl) (by kernel_rfl) (by kernel_rfl) rfl (by kernel_rfl) rfl (IM.le.refl _) (fun _ _ h => h) (PE_pick rfl (fun _ => rfl) (fun _ => rfl)) ?_
    refine WA_take 12 rfl (by kernel_rfl) (by kernel_rfl) (by kernel_rfl) (by kernel_rfl) rfl (by kernel_rfl) rfl (IM.le.refl _) (fun _ _ h => h) (PE_move rfl) ?_
    refine WA_skip 13 rfl rfl rfl rfl (fun h => by cases h) (by kernel_rfl) (by kernel_rfl) (by kernel_rfl) (by kernel_rfl) rfl (by kernel_rfl) rfl (IM.le.refl _) (fun _ _ h => h) ?_
    refine WA_skip 14 rfl rfl rfl rfl (fun h => by cases h) (by kernel_rfl) (by kernel_rfl) (by kernel_rfl) (by kernel_rfl) rfl (by kernel_rfl) rfl (IM.le.refl _) (fun _ _ h => h) ?_
    refine WA_skip 15 rfl rfl rfl rfl (fun h => by cases h) (by kernel_rfl) (by kernel_rfl) (by kernel_rfl) (by kernel_rfl) rfl (by kernel_rfl) rfl (IM.le.refl _) (fun _ _ h => h) ?_
    refine WA_skip 16 rfl rfl rfl rfl (fun h => by cases h) (by kernel_rfl) (by kernel_rfl) (by kernel_rfl) (by kernel_rfl) rfl (by kernel_rfl) rfl (IM.le.refl _) (fun _ _ h => h) ?_
    refine WA_skip 18 rfl rfl rfl rfl (fun h => by cases h) (by kernel_rfl) (by kernel_rfl) (by kernel_rfl) (by kernel_rfl) rfl (by kernel_rfl) rfl (IM.le.refl _) (fun _ _ h => h) ?_
    refine WA_skip 19 rfl rfl rfl rfl (fun h => by cases h) (by kernel_rfl) (by kernel_rfl) (by kernel_rfl) (by kernel_rfl) rfl (by kernel_rfl) rfl (IM.le.refl _) (fun _ _ h => h) ?_
    refine WA_skip 20 rfl rfl rfl rfl (fun h => by cases h) (by kernel_rfl) (by kernel_rfl) (by kernel_rfl) (by kernel_rfl) rfl (by kernel_rfl) rfl (IM.le.refl _) (fun _ _ h => h) ?_
    refine WA_skip 21 rfl rfl rfl rfl (fun h => by cases h) (by kernel_rfl) (by kernel_rfl) (by kernel_rfl) (by kernel_rfl) rfl (by kernel_rfl) rfl (IM.le.refl _) (fun _ _ h => h) ?_
    refine WA_skip 17 rfl rfl rfl rfl (fun h => by cases h) (by kernel_rfl) (by kernel_rfl) (by kernel_rfl) (by kernel_rfl) rfl (by kernel_rfl) rfl (IM.le.refl _) (fun _ _ h => h) ?_
    refine WA_skip 22 rfl rfl rfl rfl (fun h => by cases h) (by kernel_rfl) (by kernel_rfl) (by kernel_rfl) (by kernel_rfl) rfl (by kernel_rfl) rfl (IM.le.refl _) (fun _ _ h => h) ?_
    refine WA_take 23 rfl (by kernel_rfl) (by kernel_rfl) (by kernel_rfl) (by kernel_rfl) rfl (by kernel_rfl) rfl (IM.le.refl _) (fun _ _ h => h) (PE_pick rfl (fun _ => rfl) (fun _ => rfl)) ?_
    refine WA_take 24 rfl (by kernel_rfl) (by kernel_rfl) (by kernel_rfl) (by kernel_rfl) rfl (by kernel_rfl) rfl (IM.le.refl _) (fun _ _ h => h) (PE_assign rfl) ?_
    refine WA_done (by kernel_rfl) ?_
    refine QA_seq ?_
    refine CW_ret ?_
    refine QA_return (rs := [_]) rfl rfl (IM.le.refl _) (_) (fun _ _ h => h) ?_
    exact ⟨rfl, rfl, by simp [packRes]⟩
  · skip
    refine CW_drawS (l := [_, _, _, _, _, _, _, _, _, _, _, _, _, _, _, _, _, _, _, _, _, _, _, _, _]) 25 mixed ?_
    refine WA_take 0 rfl (by kernel_rfl) (by kernel_rfl) (by kernel_rfl) (by kernel_rfl) rfl (by kernel_rfl) rfl (IM.le.refl _) (fun _ _ h => h) (PE_move rfl) ?_
    refine WA_take 1 rfl (by kernel_rfl) (by kernel_rfl) (by kernel_rfl) (by kernel_rfl) rfl (by kernel_rfl) rfl (IM.le.refl _) (fun _ _ h => h) (PE_nilCheck rfl) ?_
    refine WA_take 2 rfl (by kernel_rfl) (by kernel_rfl) (by kernel_rfl) (by kernel_rfl) rfl (by kernel_rfl) rfl (IM.le.refl _) (fun _ _ h => h) (PE_fieldAddr fa_journal_Journal_7 rfl) ?_
    refine WA_take 3 rfl (by kernel_rfl) (by kernel_rfl) (by kernel_rfl) (by kernel_rfl) rfl (by kernel_rfl) rfl (IM.le.refl _) (fun _ _ h => h) (PE_load tc_bool rfl (.own h1 rfl)) ?_
    refine WA_take 4 rfl (by kernel_rfl) (by kernel_rfl) (by kernel_rfl) (by kernel_rfl) rfl (by kernel_rfl) rfl (IM.le.refl _) (fun _ _ h => h) (PE_move rfl) ?_
    refine WA_takeG 5 rfl rfl rfl rfl (by kernel_rfl) (by kernel_rfl) (by kernel_rfl) (by kernel_rfl) rfl (by kernel_rfl) rfl (IM.le.refl _) (fun _ _ h => h) (PE_move rfl) ?_
    refine WA_takeG 6 rfl rfl rfl rfl (by kernel_rfl) (by kernel_rfl) (by kernel_rfl) (by kernel_rfl) rfl (by kernel_rfl) rfl (IM.le.refl _) (fun _ _ h => h) (PE_nilCheck rfl) ?_
    refine WA_takeG 7 rfl rfl rfl rfl (by kernel_rfl) (by kernel_rfl) (by kernel_rfl) (by kernel_rfl) rfl (by kernel_rfl) rfl (IM.le.refl _) (fun _ _ h => h) (PE_fieldAddr fa_journal_Journal_0 rfl) ?_
    refine WA_takeG 8 rfl rfl rfl rfl (by kernel_rfl) (by kernel_rfl) (by kernel_rfl) (by kernel_rfl) rfl (by kernel_rfl) rfl (IM.le.refl _) (fun _ _ h => h) (PE_load tc_p_disk_Disk rfl (.own h1 rfl)) ?_
    refine WA_opG 9 rfl rfl rfl rfl (by kernel_rfl) (OE_call (l := [_]) E_disk_Disk_Power rfl rfl (kpower hd)) ?_ ?_
    · rintro _ I1_9 ah1_9 ⟨_, rfl, _, rfl, rfl, rfl⟩; exact ⟨IM.le.refl _, fun _ _ h => h⟩
    rintro _ I1_9 ah1_9 ⟨_, rfl, _, rfl, rfl, rfl⟩
    refine WA_takeG 10 rfl rfl rfl rfl (by kernel_rfl) (by kernel_rfl) (by kernel_rfl) (by kernel_rfl) rfl (by kernel_rfl) rfl (IM.le.refl _) (fun _ _ h => h) (PE_un rfl (rfl)) ?_
    refine WA_take 11 rfl (by kernel_rfl) (by kernel_rfl) (by kernel_rfl) (by kernel_rfl) rfl (by kernel_rfl) rfl (IM.le.refl _) (fun _ _ h => h) (PE_pick rfl (fun _ => rfl) (fun _ => rfl)) ?_
    refine WA_take 12 rfl (by kernel_rfl) (by kernel_rfl) (by kernel_rfl) (by kernel_rfl) rfl (by kernel_rfl) rfl (IM.le.refl _) (fun _ _ h => h) (PE_move rfl) ?_
    refine WA_takeG 13 rfl rfl rfl rfl (by kernel_rfl) (by kernel_rfl) (by kernel_rfl) (by kernel_rfl) rfl (by kernel_rfl) rfl (IM.le.refl _) (fun _ _ h => h) (PE_move rfl) ?_
    refine WA_takeG 14 rfl rfl rfl rfl (by kernel_rfl) (by kernel_rfl) (by kernel_rfl) (by kernel_rfl) rfl (by kernel_rfl) rfl (IM.le.refl _) (fun _ _ h => h) (PE_nilCheck rfl) ?_
    refine WA_takeG 15 rfl rfl rfl rfl (by kernel_rfl) (by kernel_rfl) (by kernel_rfl) (by kernel_rfl) rfl (by kernel_rfl) rfl (IM.le.refl _) (fun _ _ h => h) (PE_fieldAddr fa_journal_Journal_0 rfl) ?_
    refine WA_takeG 16 rfl rfl rfl rfl (by kernel_rfl) (by kernel_rfl) (by kernel_rfl) (by kernel_rfl) rfl (by kernel_rfl) rfl (IM.le.refl _) (fun _ _ h => h) (PE_load tc_p_disk_Disk rfl (.own h1 rfl)) ?_
    refine WA_takeG 18 rfl rfl rfl rfl (by kernel_rfl) (by kernel_rfl) (by kernel_rfl) (by kernel_rfl) rfl (by kernel_rfl) rfl (IM.le.refl _) (fun _ _ h => h) (PE_move rfl) ?_
    refine WA_takeG 19 rfl rfl rfl rfl (by kernel_rfl) (by kernel_rfl) (by kernel_rfl) (by kernel_rfl) rfl (by kernel_rfl) rfl (IM.le.refl _) (fun _ _ h => h) (PE_nilCheck rfl) ?_
    refine WA_takeG 20 rfl rfl rfl rfl (by kernel_rfl) (by kernel_rfl) (by kernel_rfl) (by kernel_rfl) rfl (by kernel_rfl) rfl (IM.le.refl _) (fun _ _ h => h) (PE_fieldAddr fa_journal_Journal_1 rfl) ?_
    refine WA_takeG 21 rfl rfl rfl rfl (by kernel_rfl) (by kernel_rfl) (by kernel_rfl) (by kernel_rfl) rfl (by kernel_rfl) rfl (IM.le.refl _) (fun _ _ h => h) (PE_load tc_int rfl (.own h1 rfl)) ?_
    refine WA_opG 17 rfl rfl rfl rfl (by kernel_rfl) (OE_call (l := [_]) E_disk_Disk_Lives rfl rfl (klives hd)) ?_ ?_
    · rintro _ I1_17 ah1_17 ⟨_, rfl, _, rfl, rfl, rfl⟩; exact ⟨IM.le.refl _, fun _ _ h => h⟩
    rintro _ I1_17 ah1_17 ⟨_, rfl, _, rfl, rfl, rfl⟩
    refine WA_takeG 22 rfl rfl rfl rfl (by kernel_rfl) (by kernel_rfl) (by kernel_rfl) (by kernel_rfl) rfl (by kernel_rfl) rfl (IM.le.refl _) (fun _ _ h => h) (PE_nei (b := decide (lives ≠ sl)) rfl rfl (by simp; omega)) ?_
    refine WA_take 23 rfl (by kernel_rfl) (by kernel_rfl) (by kernel_rfl) (by kernel_rfl) rfl (by kernel_rfl) rfl (IM.le.refl _) (fun _ _ h => h) (PE_pick rfl (fun _ => rfl) (fun _ => rfl)) ?_
    refine WA_take 24 rfl (by kernel_rfl) (by kernel_rfl) (by kernel_rfl) (by kernel_rfl) rfl (by kernel_rfl) rfl (IM.le.refl _) (fun _ _ h => h) (PE_assign rfl) ?_
    refine WA_done (by kernel_rfl) ?_
    refine QA_seq ?_
    refine CW_ret ?_
    refine QA_return (rs := [_]) rfl rfl (IM.le.refl _) (_) (fun _ _ h => h) ?_
    exact ⟨rfl, rfl, by simp [packRes]⟩

theorem base_spec (w0 : World) (I : IM) (ah : AH) (ρ : Roles) (j d : Nat) (s : JS) (hj : JAt ρ I ah j d s) (hb : s.base.length ≤ 1048576) :
    SC P w0 n_journal_Journal_Base [.pointer (some ⟨j, 0, none⟩)] I ah (fun v I' ah' => ah = ah' ∧ BySl I' v s.base) := by
  obtain ⟨bsv, rv, vs, h1, h2, h3, h4, h5⟩ := hj
  obtain ⟨ba, bc, rfl, _⟩ := h3.form
  refine SC_enter fn_journal_Journal_Base rfl rfl (Nat.le_of_ble_eq_true rfl) ?_
  refine CW_seq ?_
  refine CW_region (l := [_]) ?_
  refine WL_val rfl (PE_assign rfl) ?_
  refine WL_nil ?_
  refine QA_seq ?_
  refine CW_seq ?_
  refine CW_region (l := [_, _, _, _, _, _]) ?_
  refine WL_val rfl (PE_move rfl) ?_
  refine WL_val rfl (PE_nilCheck rfl) ?_
  refine WL_val rfl (PE_fieldAddr fa_journal_Journal_5 rfl) ?_
  refine WL_val rfl (PE_load tc_sl_uint8 rfl (.own h1 rfl)) ?_
  refine WL_op rfl (OE_call (l := [_]) E_bytes_Clone rfl rfl (bclone_spec _ _ _ _ s.base h3 (by omega))) ?_
  rintro _ I1_4 ah1_4 ⟨v4, rfl, hI4, ho4, _⟩
  refine WL_val rfl (PE_assign rfl) ?_
  refine WL_nil ?_
  refine QA_seq ?_
  refine CW_ret ?_
  refine QA_return (rs := [_]) rfl rfl (hI4) (ah) (Own.base ho4) ?_
  exact ⟨rfl, ho4.sl⟩

theorem all_spec (w0 : World) (I : IM) (ah : AH) (ρ : Roles) (j d : Nat) (s : JS) (hj : JAt ρ I ah j d s) (hr : s.recs.length ≤ 1048576) (hl : ∀ l ∈ s.recs, l.length ≤ 1048576) :
    SC P w0 n_journal_Journal_All [.pointer (some ⟨j, 0, none⟩)] I ah (fun v I' ah' => ah = ah' ∧ ByRows I' v s.recs) := by
  obtain ⟨bsv, rv, vs, h1, h2, h3, h4, h5⟩ := hj
  obtain ⟨ra, rc, rfl, _⟩ := SlI.form h4.1
  refine SC_enter fn_journal_Journal_All rfl rfl (Nat.le_of_ble_eq_true rfl) ?_
  refine CW_seq ?_
  refine CW_region (l := [_]) ?_
  refine WL_val rfl (PE_assign rfl) ?_
  refine WL_nil ?_
  refine QA_seq ?_
  refine CW_seq ?_
  refine CW_region (l := [_]) ?_
  refine WL_val rfl (PE_assign rfl) ?_
  refine WL_nil ?_
  refine QA_seq ?_
  refine CW_seq ?_
  refine CW_seq ?_
  refine CW_region (l := [_, _, _, _, _, _]) ?_
  refine WL_val rfl (PE_move rfl) ?_
  refine WL_val rfl (PE_nilCheck rfl) ?_
  refine WL_val rfl (PE_fieldAddr fa_journal_Journal_6 rfl) ?_
  refine WL_val rfl (PE_load tc_sl_sl_uint8 rfl (.own h1 rfl)) ?_
  refine WL_val rfl (PE_len und_sl_sl_uint8 rfl) ?_
  refine WL_val rfl (PE_move rfl) ?_
  refine WL_nil ?_
  refine QA_seq ?_
  refine CW_for (s.recs.length) (by omega) (fun k e I' A' => ∃ v us, e = [(9, .slice ra s.recs.length rc), (3, v)] ∧ IM.le I I' ∧ Own I' ah A' v 1 k us ∧ Rows I' us (s.recs.take k)) ([(9, .slice ra s.recs.length rc), (3, .slice none 0 0)]) (⟨_, [], rfl, IM.le.refl _, Own.nil _ _ _, Rows.nil _⟩) (by repeat (first | exact .nil | refine .cons rfl ?_)) (by rintro k e I ah ⟨_, _, rfl, _⟩; exact ⟨rfl, rfl, rfl, rfl⟩) rfl rfl rfl rfl ?_ ?_
  · rintro k e I2 A2 hk ⟨v, us, rfl, hI2, ho, hrw⟩
    obtain ⟨b, o, c, hvb, _, hcv⟩ := SlI.at h4.1 hk
    obtain ⟨u, hu, hul⟩ := h5.2 k s.recs[k] (by simp)
    have hul2 := hul.mono hI2
    obtain ⟨ua, uc, rfl, _⟩ := hul2.form
    have hlk := hl s.recs[k] (List.getElem_mem hk)
    refine CW_block ?_
    refine CW_seq ?_
    refine CW_region (l := [_, _, _]) ?_
    refine WL_val rfl (PE_index1 und_sl_sl_uint8 te_sl_uint8.size (by rw [← hvb]; rfl) rfl rfl hk) ?_
    refine WL_val rfl (PE_load tc_sl_uint8 rfl (.imm (hI2 _ _ _ (hcv k _ hu)))) ?_
    refine WL_val rfl (PE_assign rfl) ?_
    refine WL_nil ?_
    refine QA_seq ?_
    refine CW_region (l := [_, _, _, _, _, _]) ?_
    refine WL_val rfl (PE_move rfl) ?_
    refine WL_val rfl (PE_move rfl) ?_
    refine WL_op rfl (OE_call (l := [_]) E_bytes_Clone rfl rfl (bclone_spec _ _ _ _ s.recs[k] hul2 (by omega))) ?_
    rintro _ I5_2 ah5_2 ⟨v5, rfl, hI5, ho5, _⟩
    refine WL_forget (Own.base ho5) ?_
    have hs5 := ho5.sl
    clear ho5
    obtain ⟨va, vc, rfl, _⟩ := SlI.form hs5
    refine WL_op rfl (OE_litI (l := [_]) (vs := [_]) und_sl_sl_uint8 te_sl_uint8 rfl rfl rfl (by simp [Value.cells]) (by decide) rfl rfl) ?_
    rintro _ I5_3 ah5_3 ⟨v5_3, rfl, hI5_3, rfl, hv5_3, hn5_3⟩
    refine WL_op rfl (OE_append (n := k) (m := 1) (vs := us) (us := [.slice va s.recs[k].length vc]) und_sl_sl_uint8 ⟨_, und_sl_sl_uint8⟩ te_sl_uint8 rfl rfl rfl (ho.mono (hI5.trans hI5_3)) (hv5_3.src _) (by simp [Value.oneCell']) (by decide) (by omega) (by omega)) ?_
    rintro _ I5_4 ah5_4 ⟨v5_4, rfl, hI5_4, hv5_4, hn5_4⟩
    refine WL_val rfl (PE_assign rfl) ?_
    refine WL_nil ?_
    refine QA_block_normal ?_
    exact QA_next _ ⟨v5_4, us ++ [.slice va s.recs[k].length vc], rfl, hI2.trans ((hI5.trans hI5_3).trans hI5_4), hv5_4, by rw [List.take_succ_eq_append_getElem hk]; exact (hrw.mono ((hI5.trans hI5_3).trans hI5_4)).snoc (hs5.mono (hI5_3.trans hI5_4))⟩ (by repeat (first | exact .nil | refine .cons rfl ?_))
  · rintro e I2 A2 ⟨v, us, rfl, hI2, ho, hrw⟩
    rw [List.take_of_length_le (Nat.le_refl _)] at hrw
    refine QA_seq ?_
    refine CW_seq ?_
    refine CW_region (l := [_, _]) ?_
    refine WL_val rfl (PE_move rfl) ?_
    refine WL_val rfl (PE_assign rfl) ?_
    refine WL_nil ?_
    refine QA_seq ?_
    refine CW_ret ?_
    refine QA_return (rs := [_]) rfl rfl (hI2) (ah) (Own.base ho) ?_
    exact ⟨rfl, hrw.by ho.sl⟩

end Go.Proofs.YthdpebagkfloaaaDoor

