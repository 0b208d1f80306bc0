/- disk: Rename, Append, Crash; the disk as what each name has. -/
import Derived.Test.YthdpebagkfloaaaDoorPM
namespace Go.Proofs.YthdpebagkfloaaaDoor
open Go Go.RowKit SL
set_option linter.unusedVariables false
set_option linter.unusedSimpArgs false
set_option maxRecDepth 100000
abbrev Cont := ByteArray → Option (List UInt8 × List (List UInt8))
def FE.co (x : FE) : List UInt8 × List (List UInt8) := (x.data, x.parts)
def cof (fs : List FE) : Cont := fun k => (lookF k fs).map FE.co
def Cont.set (c : Cont) (k : ByteArray) (v : Option (List UInt8 × List (List UInt8))) : Cont := fun j => if j = k then v else c j
theorem cof_upd (k : ByteArray) (g : FE → FE) (hg : ∀ x, (g x).name = x.name) (fs : List FE) : cof (updF k g fs) = (cof fs).set k ((lookF k fs).map fun x => (g x).co) := by
  funext j
  unfold Cont.set cof
  induction fs with
  | nil => unfold updF lookF; split <;> rfl
  | cons x r ih =>
    unfold updF
    by_cases hk : k = x.name
    · rw [if_pos hk]
      unfold lookF
      rw [hg, if_pos hk]
      by_cases hj : j = k
      · rw [if_pos (hj.trans hk), if_pos hj]; rfl
      · rw [if_neg (fun h => hj (h.trans hk.symm)), if_neg hj, if_neg (fun h => hj (h.trans hk.symm))]
    · rw [if_neg hk]
      unfold lookF
      rw [if_neg hk]
      by_cases hj : j = x.name
      · rw [if_pos hj, if_pos hj, if_neg (fun h => hk (h.symm.trans hj))]
      · rw [if_neg hj, if_neg hj]; exact ih
theorem lookF_none {k : ByteArray} : ∀ {fs : List FE}, k ∉ fs.map (·.name) → lookF k fs = none
  | [], _ => rfl
  | x :: r, h => by
    simp only [List.map_cons, List.mem_cons, not_or] at h
    unfold lookF; rw [if_neg h.1]; exact lookF_none h.2
theorem cof_del (k : ByteArray) : ∀ (fs : List FE), (fs.map (·.name)).Nodup → cof (delF k fs) = (cof fs).set k none
  | [], _ => by funext j; unfold Cont.set cof delF lookF; split <;> rfl
  | x :: r, hn => by
    have hn' := List.nodup_cons.1 hn
    have ih := cof_del k r hn'.2
    funext j
    have ihj := congrFun ih j
    unfold Cont.set cof at ihj ⊢
    unfold delF
    by_cases hk : k = x.name
    · rw [if_pos hk]
      by_cases hj : j = k
      · rw [if_pos hj, hj, hk, lookF_none hn'.1]; rfl
      · rw [if_neg hj]; conv => rhs; unfold lookF
        rw [if_neg (fun h => hj (h.trans hk.symm))]
    · rw [if_neg hk]
      unfold lookF
      by_cases hj : j = x.name
      · rw [if_pos hj, if_pos hj, if_neg (fun h => hk (h.symm.trans hj))]
      · rw [if_neg hj, if_neg hj]; exact ihj
def putF (x : FE) : List FE → List FE
  | [] => [x]
  | y :: r => if x.name = y.name then { x with born := y.born } :: r else y :: putF x r
theorem putF_ents (x : FE) (fs : List FE) : (putF x fs).map FE.ent = putL x.name (.pointer (some ⟨x.fb, 0, none⟩)) x.born (fs.map FE.ent) := by
  induction fs with
  | nil => rfl
  | cons y r ih =>
    rw [List.map_cons, putL, putF]
    by_cases h : x.name = y.name
    · rw [if_pos h, if_pos (by simpa [FE.ent] using h)]; rfl
    · rw [if_neg h, if_neg (by simpa [FE.ent] using h), List.map_cons, ih]
theorem mem_putF {x y : FE} : ∀ {fs : List FE}, y ∈ putF x fs → y ∈ fs ∨ (y.name = x.name ∧ y.fb = x.fb ∧ y.data = x.data ∧ y.parts = x.parts ∧ (y.born = x.born ∨ ∃ z ∈ fs, z.born = y.born))
  | [], h => by
    have : y = x := by simpa [putF] using h
    subst this; exact .inr ⟨rfl, rfl, rfl, rfl, .inl rfl⟩
  | z :: r, h => by
    unfold putF at h
    split at h
    · rcases List.mem_cons.1 h with rfl | h
      · exact .inr ⟨rfl, rfl, rfl, rfl, .inr ⟨z, by simp, rfl⟩⟩
      · exact .inl (by simp [h])
    · rcases List.mem_cons.1 h with rfl | h
      · exact .inl (by simp)
      · rcases mem_putF h with h | ⟨a, b, c, d, e | ⟨w, hw, e⟩⟩
        · exact .inl (by simp [h])
        · exact .inr ⟨a, b, c, d, .inl e⟩
        · exact .inr ⟨a, b, c, d, .inr ⟨w, by simp [hw], e⟩⟩
theorem putF_born (x : FE) : ∀ (fs : List FE), (putF x fs).map (·.born) = fs.map (·.born) ∨ (putF x fs).map (·.born) = fs.map (·.born) ++ [x.born] ∧ lookF x.name fs = none
  | [] => .inr ⟨rfl, rfl⟩
  | y :: r => by
    unfold putF lookF
    by_cases h : x.name = y.name
    · rw [if_pos h]; exact .inl rfl
    · rw [if_neg h, if_neg h]
      rcases putF_born x r with e | ⟨e, e'⟩
      · exact .inl (by simp [e])
      · exact .inr ⟨by simp [e], e'⟩
theorem putF_name (x : FE) : ∀ (fs : List FE), (putF x fs).map (·.name) = fs.map (·.name) ∨ (putF x fs).map (·.name) = fs.map (·.name) ++ [x.name] ∧ x.name ∉ fs.map (·.name)
  | [] => .inr ⟨rfl, by simp⟩
  | y :: r => by
    unfold putF
    by_cases h : x.name = y.name
    · rw [if_pos h]; exact .inl (by simp [h])
    · rw [if_neg h]
      rcases putF_name x r with e | ⟨e, e'⟩
      · exact .inl (by simp [e])
      · exact .inr ⟨by simp [e], by simp [h]; simpa using e'⟩
theorem putF_fb (x : FE) : ∀ (fs : List FE), (fs.map (·.fb)).Nodup → x.fb ∉ fs.map (·.fb) → ((putF x fs).map (·.fb)).Nodup
  | [], _, _ => by simp [putF]
  | y :: r, hn, hx => by
    have hn' := List.nodup_cons.1 hn
    simp only [List.map_cons, List.mem_cons, not_or] at hx
    unfold putF
    by_cases h : x.name = y.name
    · rw [if_pos h]; exact List.nodup_cons.2 ⟨hx.2, hn'.2⟩
    · rw [if_neg h, List.map_cons]
      refine List.nodup_cons.2 ⟨fun hm => ?_, putF_fb x r hn'.2 hx.2⟩
      obtain ⟨z, hz, e⟩ := List.mem_map.1 hm
      rcases mem_putF hz with hz | ⟨_, hz, _⟩
      · exact hn'.1 (List.mem_map.2 ⟨z, hz, e⟩)
      · exact hx.1 (hz.symm.trans e)
theorem cof_put (x : FE) : ∀ (fs : List FE), cof (putF x fs) = (cof fs).set x.name (some x.co)
  | [] => by funext j; unfold Cont.set cof putF lookF; by_cases h : j = x.name <;> simp [h, lookF]
  | y :: r => by
    funext j
    have ihj := congrFun (cof_put x r) j
    unfold Cont.set cof at ihj ⊢
    unfold putF
    by_cases hk : x.name = y.name
    · rw [if_pos hk]
      unfold lookF
      by_cases hj : j = x.name
      · rw [if_pos hj, if_pos (by exact hj)]; rfl
      · rw [if_neg (by exact hj), if_neg hj, if_neg (fun h => hj (h.trans hk.symm))]
    · rw [if_neg hk]
      unfold lookF
      by_cases hj : j = y.name
      · rw [if_pos hj, if_pos hj, if_neg (fun h => hk (h.symm.trans hj))]
      · rw [if_neg hj, if_neg hj]; exact ihj
theorem putF_size (x : FE) : ∀ (fs : List FE), fsSize (putF x fs) ≤ fsSize fs + x.sz
  | [] => by simp [putF, fsSize]
  | y :: r => by
    unfold putF; split
    · unfold fsSize; have : FE.sz { x with born := y.born } = x.sz := rfl
      rw [this]; omega
    · have := putF_size x r; unfold fsSize; omega
theorem delF_size {k : ByteArray} {x : FE} : ∀ {fs : List FE}, lookF k fs = some x → fsSize (delF k fs) + x.sz = fsSize fs
  | y :: r, h => by
    unfold lookF at h; unfold delF
    split at h
    · cases h; rename_i hk; rw [if_pos hk]; rw [fsSize]; omega
    · rename_i hk; rw [if_neg hk]; have := delF_size h; unfold fsSize; omega
theorem delF_fb {k : ByteArray} {x : FE} : ∀ {fs : List FE}, (fs.map (·.fb)).Nodup → lookF k fs = some x → x.fb ∉ (delF k fs).map (·.fb)
  | y :: r, hn, h => by
    have hn' := List.nodup_cons.1 hn
    unfold lookF at h; unfold delF
    split at h
    · cases h; rename_i hk; rw [if_pos hk]; exact hn'.1
    · rename_i hk; rw [if_neg hk]
      simp only [List.map_cons, List.mem_cons, not_or]
      refine ⟨fun e => hn'.1 ?_, delF_fb hn'.2 h⟩
      show y.fb ∈ _
      rw [← e]; exact List.mem_map.2 ⟨x, (lookF_mem h).1, rfl⟩
theorem delF_sz (k : ByteArray) : ∀ (fs : List FE), fsSize (delF k fs) ≤ fsSize fs
  | [] => Nat.le_refl _
  | y :: r => by
    have := delF_sz k r
    rw [show fsSize (y :: r) = y.sz + fsSize r from rfl]
    unfold delF; split
    · omega
    · rw [show fsSize (y :: delF k r) = y.sz + fsSize (delF k r) from rfl]; omega
theorem putC_born {x : FE} {fs : List FE} (h5 : ∀ y ∈ fs, y.born < x.born) : ∀ y ∈ putF x fs, y.born < putC x.name x.born (fs.map FE.ent) := by
  have hb := putF_born x fs
  intro y hy
  have hym : y.born ∈ (putF x fs).map (·.born) := List.mem_map.2 ⟨y, hy, rfl⟩
  have key : ∀ z ∈ fs.map (·.born), z < x.born := by
    intro z hz; obtain ⟨w, hw, rfl⟩ := List.mem_map.1 hz; exact h5 w hw
  unfold putC
  rcases hb with e | ⟨e, e'⟩
  · rw [e] at hym; have := key _ hym; split <;> omega
  · rw [e] at hym
    rw [getL_ents, e']
    simp only [List.mem_append, List.mem_singleton] at hym
    rcases hym with h | h
    · have := key _ h; simp; omega
    · simp [h]
/-- A file is put under a name. -/
theorem DiskAt.put {ρ : Roles} {I : IM} {ah : AH} {d room : Nat} {on : Bool} {lives : Nat} {fs : List FE} {x : FE} {m : Nat}
    (h1 : ah d = some (.cells [.int .i64 (room : Int), .map (some m), .bool on, .int .i64 (lives : Int)])) (h2 : ρ d = .dsk) (h4 : ρ m = .mp)
    (h5 : ∀ y ∈ fs, y.born < x.born) (h6 : (fs.map (·.born)).Nodup) (h7 : (fs.map (·.fb)).Nodup) (h8 : ∀ y ∈ fs, FileAt ρ I ah y.fb y.data y.parts) (hx : x.fb ∉ fs.map (·.fb)) (hf : FileAt ρ I ah x.fb x.data x.parts) :
    Evo ofD ρ ah ρ (ah.set m (mobj ((putF x fs).map FE.ent) (putC x.name x.born (fs.map FE.ent)))) ∧ DiskAt ρ I (ah.set m (mobj ((putF x fs).map FE.ent) (putC x.name x.born (fs.map FE.ent)))) d room on lives (putF x fs) := by
  refine DiskAt.ents (clk := 0) (fs := fs) h1 h2 h4 (putC_born h5) ?_ (putF_fb x fs h7 hx) ?_
  · rcases putF_born x fs with e | ⟨e, _⟩
    · rw [e]; exact h6
    · rw [e]
      refine List.nodup_append.2 ⟨h6, by simp, ?_⟩
      rintro a ha b hb rfl
      simp only [List.mem_singleton] at hb
      obtain ⟨w, hw, e⟩ := List.mem_map.1 ha
      have := h5 w hw; omega
  · intro y hy
    rcases mem_putF hy with h | ⟨_, e1, e2, e3, _⟩
    · exact h8 y h
    · rw [e1, e2, e3]; exact hf
/-- The disk as what each name has; no more than sz bytes. -/
def Dk (ρ : Roles) (I : IM) (ah : AH) (d room : Nat) (on : Bool) (lives : Nat) (c : Cont) (sz : Nat) : Prop :=
  ∃ fs, DiskAt ρ I ah d room on lives fs ∧ Fine room fs ∧ (fs.map (·.name)).Nodup ∧ fsSize fs ≤ sz ∧ cof fs = c
theorem Dk.mono {ρ : Roles} {I J : IM} {ah : AH} {d room : Nat} {on : Bool} {lives : Nat} {c : Cont} {sz : Nat} (h : Dk ρ I ah d room on lives c sz) (hI : IM.le I J) : Dk ρ J ah d room on lives c sz := by
  obtain ⟨fs, h1, h2⟩ := h; exact ⟨fs, h1.mono hI, h2⟩
theorem Dk.evo {S : Role → Prop} {ρ ρ' : Roles} {I : IM} {ah ah' : AH} {d room : Nat} {on : Bool} {lives : Nat} {c : Cont} {sz : Nat} (h : Dk ρ I ah d room on lives c sz) (e : Evo S ρ ah ρ' ah') (hS : ∀ r, ofD r → ¬ S r) : Dk ρ' I ah' d room on lives c sz := by
  obtain ⟨fs, h1, h2⟩ := h; exact ⟨fs, h1.evo e hS, h2⟩
def good (k : ByteArray) : Bool := goodName k.data.toList
theorem ask1 {k : ByteArray} (h : good k = true) : askN true [k] = 0 := by simp [askN]; exact h
theorem findE_co (fs : List FE) {k : ByteArray} (h : good k = true) : findE true fs k = if (cof fs k).isSome then 0 else 4 := by
  unfold findE; rw [if_neg (by rw [ask1 h]; simp)]; unfold cof; simp

theorem rename_spec (w0 : World) (I : IM) (ah : AH) (ρ : Roles) (d room lives : Nat) (c : Cont) (sz : Nat) (hd : Dk ρ I ah d room true lives c sz) (k name : ByteArray) (hk : k.size < 9223372036854775808) (hname : name.size < 9223372036854775808) (gk : good k = true) (gn : good name = true) (hne : name ≠ k) (u : List UInt8 × List (List UInt8)) (hc : c k = some u) :
    SC P w0 n_disk_Disk_Rename [.pointer (some ⟨d, 0, none⟩), .string k, .string name] I ah (fun v I' ah' => IM.le I I' ∧ v = .int .i64 0 ∧ Evo ofD ρ ah ρ ah' ∧ Dk ρ I' ah' d room true lives ((c.set k none).set name (some u)) sz) := by
  obtain ⟨fs, hd0, hF, hN, hsz, rfl⟩ := hd
  have hd1 := hd0
  obtain ⟨m, clk, h1, h2, h3, h4, h5, h6, h7, h8⟩ := hd1
  have ha : askN true [k, name] = 0 := by simp [askN]; exact ⟨gk, gn⟩
  obtain ⟨x, hx, hxu⟩ : ∃ x, lookF k fs = some x ∧ x.co = u := by
    unfold cof at hc; cases h : lookF k fs with
    | none => rw [h] at hc; cases hc
    | some x => rw [h] at hc; exact ⟨x, rfl, by simpa using hc⟩
  have hfe : findE true fs k = 0 := by rw [findE_co fs gk, hc]; rfl
  have hfv : findV true fs k = .pointer (some ⟨x.fb, 0, none⟩) := by
    obtain ⟨y, hy, hv⟩ := find_ok hfe
    rw [hx] at hy; cases hy; exact hv
  have hm := (lookF_mem hx).1
  have hsub := delF_sub k fs
  refine SC_enter fn_disk_Disk_Rename rfl rfl (Nat.le_of_ble_eq_true rfl) ?_
  refine CW_seq ?_
  refine CW_region (l := [_]) ?_
  refine WL_val rfl (PE_assign rfl) ?_
  refine WL_nil ?_
  refine QA_seq ?_
  refine CW_seq ?_
  refine CW_seq ?_
  refine CW_region (l := [_, _, _, _, _, _]) ?_
  refine WL_val rfl (PE_move rfl) ?_
  refine WL_val rfl (PE_move rfl) ?_
  refine WL_val rfl (PE_move rfl) ?_
  refine WL_op rfl (OE_litI (l := [_, _]) (vs := [_, _]) und_sl_string te_string rfl rfl rfl (by simp [Value.cells]) (by decide) rfl rfl) ?_
  rintro _ I1_3 ah1_3 ⟨v1_3, rfl, hI1_3, rfl, hv1_3, hn1_3⟩
  refine WL_op rfl (OE_call (l := [_, _]) E_disk_Disk_ask rfl rfl (ask_spec _ _ _ ρ d room true lives fs (hd0.mono hI1_3) _ [k, name] hv1_3 (by simp) (by simpa using ⟨hk, hname⟩))) ?_
  rintro _ I1_4 ah1_4 ⟨_, rfl, _, rfl, rfl, rfl⟩
  rw [ha]
  refine WL_val rfl (PE_assign rfl) ?_
  refine WL_nil ?_
  refine QA_seq ?_
  refine CW_seq ?_
  refine CW_region (l := [_, _]) ?_
  refine WL_val rfl (PE_move rfl) ?_
  refine WL_val rfl (PE_nei rfl rfl rfl) ?_
  refine WL_nil ?_
  refine QA_seq ?_
  refine CW_false rfl ?_
  refine CW_skip ?_
  refine QA_seq ?_
  refine CW_seq ?_
  refine CW_region (l := [_, _, _, _, _, _, _, _]) ?_
  refine WL_val rfl (PE_move rfl) ?_
  refine WL_val rfl (PE_move rfl) ?_
  refine WL_op rfl (OE_call (l := [_, _]) E_disk_Disk_find rfl rfl (find_spec _ _ _ ρ d room true lives fs (hd0.mono hI1_3) k hk)) ?_
  rintro _ I4_2 ah4_2 ⟨_, rfl, hI4, rfl, rfl⟩
  rw [hfe, hfv]
  refine WL_val rfl (PE_move rfl) ?_
  refine WL_val rfl (PE_extract rfl rfl) ?_
  refine WL_val rfl (PE_extract rfl rfl) ?_
  refine WL_val rfl (PE_assign rfl) ?_
  refine WL_val rfl (PE_assign rfl) ?_
  refine WL_nil ?_
  refine QA_seq ?_
  refine CW_seq ?_
  refine CW_seq ?_
  refine CW_region (l := [_, _]) ?_
  refine WL_val rfl (PE_move rfl) ?_
  refine WL_val rfl (PE_nei rfl rfl rfl) ?_
  refine WL_nil ?_
  refine QA_seq ?_
  refine CW_false rfl ?_
  refine CW_skip ?_
  refine QA_seq ?_
  refine CW_seq ?_
  refine CW_region (l := [_, _, _, _, _, _]) ?_
  refine WL_val rfl (PE_move rfl) ?_
  refine WL_val rfl (PE_nilCheck rfl) ?_
  refine WL_val rfl (PE_fieldAddr fa_disk_Disk_1 rfl) ?_
  refine WL_val rfl (PE_load tc_m_string_p_disk_file rfl (.own h1 rfl)) ?_
  refine WL_val rfl (PE_move rfl) ?_
  refine WL_op rfl (OE_delete und_m_string_p_disk_file und_string rfl rfl h3) ?_
  rintro _ I7_5 ah7_5 ⟨rfl, rfl, rfl⟩
  rw [← delF_ents]
  have hD := DiskAt.ents (fs := fs) (fs' := delF k fs) (I := I4_2) (clk := clk) (clk' := clk) h1 h2 h4 (fun x hx => h5 x (hsub.mem hx)) (h6.sublist (hsub.map _)) (h7.sublist (hsub.map _)) (fun x hx => ((h8 x (hsub.mem hx)).mono hI1_3).mono hI4)
  have hne' : d ≠ m := by rintro rfl; rw [h2] at h4; cases h4
  have h1' : (ah.set m (mobj ((delF k fs).map FE.ent) clk)) d = some (.cells [.int .i64 (room : Int), .map (some m), .bool true, .int .i64 (lives : Int)]) := by rw [AH.set_ne _ _ hne']; exact h1
  have hff := ((h8 x hm).mono hI1_3).mono hI4
  have eE : Evo (fun r => r = .mp) ρ ah ρ (ah.set m (mobj ((delF k fs).map FE.ent) clk)) := Evo.set _ h4
  have hff' := hff.evo eE (by rintro r (rfl | rfl | rfl) <;> simp)
  have hm' : (ah.set m (mobj ((delF k fs).map FE.ent) clk)) m = some (mobj ((delF k fs).map FE.ent) clk) := AH.set_same _ _ _
  have hfiles := fun y (hy : y ∈ delF k fs) => (((h8 y (hsub.mem hy)).mono hI1_3).mono hI4).evo eE (by rintro r (rfl | rfl | rfl) <;> simp)
  generalize ah.set m (mobj ((delF k fs).map FE.ent) clk) = ah2 at hD h1' hff' hm' hfiles ⊢
  refine WL_nil ?_
  refine QA_seq ?_
  refine CW_seq ?_
  refine CW_region (l := [_, _, _, _, _, _, _]) ?_
  refine WL_val rfl (PE_move rfl) ?_
  refine WL_val rfl (PE_nilCheck rfl) ?_
  refine WL_val rfl (PE_fieldAddr fa_disk_Disk_1 rfl) ?_
  refine WL_val rfl (PE_load tc_m_string_p_disk_file rfl (.own h1' rfl)) ?_
  refine WL_val rfl (PE_move rfl) ?_
  refine WL_val rfl (PE_move rfl) ?_
  refine WL_op rfl (OE_mapUpdate und_m_string_p_disk_file und_string rfl rfl rfl hm') ?_
  rintro _ I8_6 ah8_6 ⟨rfl, rfl, rfl⟩
  refine WL_nil ?_
  refine QA_seq ?_
  refine CW_seq ?_
  refine CW_region (l := [_]) ?_
  refine WL_val rfl (PE_assign rfl) ?_
  refine WL_nil ?_
  refine QA_seq ?_
  refine CW_ret ?_
  refine QA_return (rs := [_]) rfl rfl (hI1_3.trans hI4) (_) (fun _ _ h => h) ?_
  have hD2 := DiskAt.put (x := { x with name := name, born := clk }) (fs := delF k fs) h1' h2 h4 (fun y hy => h5 y (hsub.mem hy)) (h6.sublist (hsub.map _)) (h7.sublist (hsub.map _)) hfiles (by have := delF_fb h7 hx; exact this) hff'
  have hpe := putF_ents { x with name := name, born := clk } (delF k fs)
  dsimp only at hpe
  rw [show (#[Value.pointer (some { block := x.fb, off := 0 }), Value.int IntKind.i64 ((0 : Nat) : Int)] : Array Value)[0] = Value.pointer (some { block := x.fb, off := 0 }) from rfl, ← hpe]
  refine ⟨hI1_3.trans hI4, rfl, hD.1.trans hD2.1, putF { x with name := name, born := clk } (delF k fs), hD2.2, ⟨?_, hF.2.1, ?_⟩, ?_, ?_, ?_⟩
  · have a := putF_size { x with name := name, born := clk } (delF k fs)
    have b := delF_size hx
    have c := hF.1
    have e : FE.sz { x with name := name, born := clk } = x.sz := rfl
    omega
  · intro y hy
    rcases mem_putF hy with h | ⟨_, _, _, e, _⟩
    · exact hF.2.2 y (hsub.mem h)
    · rw [e]; exact hF.2.2 x hm
  · have hN' := hN.sublist (hsub.map (·.name))
    rcases putF_name { x with name := name, born := clk } (delF k fs) with e | ⟨e, e'⟩
    · rw [e]; exact hN'
    · rw [e]
      refine List.nodup_append.2 ⟨hN', by simp, ?_⟩
      rintro a ha b hb rfl
      simp only [List.mem_singleton] at hb
      rw [hb] at ha; exact e' ha
  · have a := putF_size { x with name := name, born := clk } (delF k fs)
    have b := delF_size hx
    have e : FE.sz { x with name := name, born := clk } = x.sz := rfl
    omega
  · rw [cof_put, cof_del k fs hN, ← hxu]; rfl

theorem cof_some {c : List UInt8 × List (List UInt8)} {fs : List FE} {k : ByteArray} (h : cof fs k = some c) : ∃ x, lookF k fs = some x ∧ x.co = c := by
  unfold cof at h; cases hl : lookF k fs with
  | none => rw [hl] at h; cases h
  | some x => rw [hl] at h; exact ⟨x, rfl, by simpa using h⟩
theorem updF_size {k : ByteArray} {x : FE} {g : FE → FE} {n : Nat} : ∀ {fs : List FE}, lookF k fs = some x → (g x).sz = x.sz + n → fsSize (updF k g fs) = fsSize fs + n
  | y :: r, h, hg => by
    unfold lookF at h; unfold updF
    split at h
    · cases h; rename_i hk; rw [if_pos hk]; rw [fsSize, fsSize, hg]; omega
    · rename_i hk; rw [if_neg hk]; rw [fsSize, fsSize, updF_size h hg]; omega
theorem putF_size0 {x : FE} : ∀ {fs : List FE}, lookF x.name fs = none → fsSize (putF x fs) = fsSize fs + x.sz
  | [], _ => by simp [putF, fsSize]
  | y :: r, h => by
    unfold lookF at h; unfold putF
    by_cases hk : x.name = y.name
    · rw [if_pos hk] at h; cases h
    · rw [if_neg hk] at h ⊢; rw [fsSize, fsSize, putF_size0 h]; omega
theorem putF_names {x : FE} {fs : List FE} (hN : (fs.map (·.name)).Nodup) : ((putF x fs).map (·.name)).Nodup := by
  rcases putF_name x fs with e | ⟨e, e'⟩
  · rw [e]; exact hN
  · rw [e]
    refine List.nodup_append.2 ⟨hN, by simp, ?_⟩
    rintro a ha b hb rfl
    simp only [List.mem_singleton] at hb
    rw [hb] at ha; exact e' ha
def grown (o : Option (List UInt8 × List (List UInt8))) (b : List UInt8) : Option (List UInt8 × List (List UInt8)) := match o with
  | some (data, parts) => some (data, parts ++ [b])
  | none => some ([], [b])
theorem Fine.upd {room : Nat} {fs : List FE} {k : ByteArray} {x : FE} {b : List UInt8} (h : Fine room fs) (hn : (fs.map (·.fb)).Nodup) (hx : lookF k fs = some x) (hb : b ≠ []) (hs : fsSize fs + b.length ≤ room) :
    Fine room (updF k (fun y => { y with parts := y.parts ++ [b] }) fs) ∧ fsSize (updF k (fun y => { y with parts := y.parts ++ [b] }) fs) = fsSize fs + b.length := by
  have e : fsSize (updF k (fun y => { y with parts := y.parts ++ [b] }) fs) = fsSize fs + b.length := updF_size hx (by simp [FE.sz]; omega)
  refine ⟨⟨by omega, h.2.1, fun y hy p hp => ?_⟩, e⟩
  rcases mem_updF hn hx hy with rfl | ⟨hm, _⟩
  · rcases List.mem_append.1 hp with hp | hp
    · exact h.2.2 x (lookF_mem hx).1 p hp
    · rw [List.mem_singleton.1 hp]; exact hb
  · exact h.2.2 y hm p hp

theorem dappend_spec (w0 : World) (I : IM) (ah : AH) (ρ : Roles) (d room lives : Nat) (c : Cont) (sz : Nat) (hd : Dk ρ I ah d room true lives c sz) (k : ByteArray) (hk : k.size < 9223372036854775808) (gk : good k = true) (v : Value) (b : List UInt8) (hv : BySl I v b) (hb : b ≠ []) (hr : sz + b.length ≤ room) :
    SC P w0 n_disk_Disk_Append [.pointer (some ⟨d, 0, none⟩), .string k, v] I ah (fun v' I' ah' => IM.le I I' ∧ v' = .int .i64 0 ∧ ∃ ρ', Evo ofD ρ ah ρ' ah' ∧ Dk ρ' I' ah' d room true lives (c.set k (grown (c k) b)) (sz + b.length)) := by
  obtain ⟨fs, hd0, hF, hN, hsz, rfl⟩ := hd
  have hd1 := hd0
  obtain ⟨m, clk, h1, h2, h3, h4, h5, h6, h7, h8⟩ := hd1
  obtain ⟨ba, bc, rfl, _⟩ := hv.form
  have hF1 := hF.1
  have hF2 := hF.2.1
  refine SC_enter fn_disk_Disk_Append rfl rfl (Nat.le_of_ble_eq_true rfl) ?_
  refine CW_seq ?_
  refine CW_region (l := [_]) ?_
  refine WL_val rfl (PE_assign rfl) ?_
  refine WL_nil ?_
  refine QA_seq ?_
  refine CW_seq ?_
  refine CW_seq ?_
  refine CW_region (l := [_, _, _, _, _]) ?_
  refine WL_val rfl (PE_move rfl) ?_
  refine WL_val rfl (PE_move rfl) ?_
  refine WL_op rfl (OE_litI (l := [_]) (vs := [_]) und_sl_string te_string rfl rfl rfl (by simp [Value.cells]) (by decide) rfl rfl) ?_
  rintro _ I1_2 ah1_2 ⟨v1_2, rfl, hI1_2, rfl, hv1_2, hn1_2⟩
  refine WL_op rfl (OE_call (l := [_, _]) E_disk_Disk_ask rfl rfl (ask_spec _ _ _ ρ d room true lives fs (hd0.mono hI1_2) _ [k] hv1_2 (by simp) (by simpa using hk))) ?_
  rintro _ I1_3 ah1_3 ⟨_, rfl, _, rfl, rfl, rfl⟩
  rw [ask1 gk]
  replace hv := hv.mono hI1_2
  replace hd0 := hd0.mono hI1_2
  replace h8 := fun x hx => (h8 x hx).mono hI1_2
  refine WL_val rfl (PE_assign rfl) ?_
  refine WL_nil ?_
  refine QA_seq ?_
  refine CW_seq ?_
  refine CW_region (l := [_, _]) ?_
  refine WL_val rfl (PE_move rfl) ?_
  refine WL_val rfl (PE_nei rfl rfl rfl) ?_
  refine WL_nil ?_
  refine QA_seq ?_
  refine CW_false rfl ?_
  refine CW_skip ?_
  refine QA_seq ?_
  refine CW_seq ?_
  refine CW_seq ?_
  refine CW_drawS (l := [_, _, _, _, _, _, _, _, _, _]) 10 mixed ?_
  refine WA_take 0 rfl (by kernel_rfl) (by kernel_rfl) (by kernel_rfl) (by kernel_rfl) rfl (by kernel_rfl) rfl (IM.le.refl _) (fun _ _ h => h) (PE_move rfl) ?_
  refine WA_take 1 rfl (by kernel_rfl) (by kernel_rfl) (by kernel_rfl) (by kernel_rfl) rfl (by kernel_rfl) rfl (IM.le.refl _) (fun _ _ h => h) (PE_len und_sl_uint8 rfl) ?_
  refine WA_take 2 rfl (by kernel_rfl) (by kernel_rfl) (by kernel_rfl) (by kernel_rfl) rfl (by kernel_rfl) rfl (IM.le.refl _) (fun _ _ h => h) (PE_move rfl) ?_
  refine WA_take 3 rfl (by kernel_rfl) (by kernel_rfl) (by kernel_rfl) (by kernel_rfl) rfl (by kernel_rfl) rfl (IM.le.refl _) (fun _ _ h => h) (PE_nilCheck rfl) ?_
  refine WA_take 4 rfl (by kernel_rfl) (by kernel_rfl) (by kernel_rfl) (by kernel_rfl) rfl (by kernel_rfl) rfl (IM.le.refl _) (fun _ _ h => h) (PE_fieldAddr fa_disk_Disk_0 rfl) ?_
  refine WA_take 5 rfl (by kernel_rfl) (by kernel_rfl) (by kernel_rfl) (by kernel_rfl) rfl (by kernel_rfl) rfl (IM.le.refl _) (fun _ _ h => h) (PE_load tc_int rfl (.own h1 rfl)) ?_
  refine WA_take 6 rfl (by kernel_rfl) (by kernel_rfl) (by kernel_rfl) (by kernel_rfl) rfl (by kernel_rfl) rfl (IM.le.refl _) (fun _ _ h => h) (PE_move rfl) ?_
  refine WA_op 7 rfl rfl (by kernel_rfl) (OE_call (l := [_]) E_disk_Disk_size rfl rfl (dsize_spec _ _ _ ρ d room true lives fs hd0 hF)) ?_ ?_
  · rintro _ I4_7 ah4_7 ⟨_, rfl, _, rfl, rfl, rfl⟩; exact ⟨IM.le.refl _, fun _ _ h => h⟩
  rintro _ I4_7 ah4_7 ⟨_, rfl, _, rfl, rfl, rfl⟩
  refine WA_take 8 rfl (by kernel_rfl) (by kernel_rfl) (by kernel_rfl) (by kernel_rfl) rfl (by kernel_rfl) rfl (IM.le.refl _) (fun _ _ h => h) (PE_sub (r := ((room - fsSize fs : Nat) : Int)) rfl rfl (w64e (by omega) (by omega) (by omega))) ?_
  refine WA_take 9 rfl (by kernel_rfl) (by kernel_rfl) (by kernel_rfl) (by kernel_rfl) rfl (by kernel_rfl) rfl (IM.le.refl _) (fun _ _ h => h) (PE_gtr (b := false) rfl rfl (by simp; omega)) ?_
  refine WA_done (by kernel_rfl) ?_
  refine QA_seq ?_
  refine CW_false rfl ?_
  refine CW_skip ?_
  refine QA_seq ?_
  refine CW_join (fun e I' A' => ∃ ρ1 fs1 x, e = [(0, .pointer (some ⟨d, 0, none⟩)), (1, .string k), (2, .slice ba b.length bc)] ∧ IM.le I1_2 I' ∧ Evo ofD ρ ah ρ1 A' ∧ DiskAt ρ1 I' A' d room true lives fs1 ∧ lookF k fs1 = some x ∧ (fs1.map (·.name)).Nodup ∧ fsSize fs1 = fsSize fs ∧ Fine room fs1 ∧ (cof fs).set k (some (x.data, x.parts ++ [b])) = (cof fs).set k (grown (cof fs k) b) ∧ (∀ j, j ≠ k → cof fs1 j = cof fs j)) ?_ ?_
  · refine CW_seq ?_
    cases hl : lookF k fs
    · have hg : getL k (fs.map FE.ent) = none := by rw [getL_ents, hl]; rfl
      have hc0 : cof fs k = none := by unfold cof; rw [hl]; rfl
      refine CW_region (l := [_, _, _, _, _, _, _]) ?_
      refine WL_val rfl (PE_move rfl) ?_
      refine WL_val rfl (PE_nilCheck rfl) ?_
      refine WL_val rfl (PE_fieldAddr fa_disk_Disk_1 rfl) ?_
      refine WL_val rfl (PE_load tc_m_string_p_disk_file rfl (.own h1 rfl)) ?_
      refine WL_val rfl (PE_move rfl) ?_
      refine WL_val rfl (PE_lookup0 und_m_string_p_disk_file und_string te_p_disk_file rfl rfl h3 hg false) ?_
      refine WL_val rfl (PE_eqpn und_p_disk_file rfl rfl rfl) ?_
      refine WL_nil ?_
      refine QA_seq ?_
      refine CW_true rfl ?_
      refine CW_region (l := [_, _, _, _, _, _, _, _]) ?_
      refine WL_val rfl (PE_move rfl) ?_
      refine WL_val rfl (PE_nilCheck rfl) ?_
      refine WL_val rfl (PE_fieldAddr fa_disk_Disk_1 rfl) ?_
      refine WL_val rfl (PE_load tc_m_string_p_disk_file rfl (.own h1 rfl)) ?_
      refine WL_val rfl (PE_move rfl) ?_
      refine WL_val rfl (PE_buildS (l := []) (vs := [_, _]) ts_disk_file rfl rfl) ?_
      refine WL_op rfl (OE_box rfl rfl) ?_
      rintro _ I7_6 ah7_6 ⟨b7_6, rfl, rfl, rfl, hb7_6, hw7_6⟩
      change WL _ _ _ _ _ (ah.set b7_6 (.cells [.slice none 0 0, .slice none 0 0])) _
      have hE0 : Evo ofD ρ ah (ρ.set b7_6 (.fil b7_6)) (ah.set b7_6 (.cells [.slice none 0 0, .slice none 0 0])) := Evo.new _ _ hb7_6
      have eN : Evo (fun _ => False) ρ ah (ρ.set b7_6 (.fil b7_6)) (ah.set b7_6 (.cells [.slice none 0 0, .slice none 0 0])) := Evo.new _ _ hb7_6
      have h1' := (eN d _ h1 id).1
      have h2' := (eN d _ h1 id).2.trans h2
      have h3' := (eN m _ h3 id).1
      have h4' := (eN m _ h3 id).2.trans h4
      have h8' := fun y hy => (h8 y hy).evo eN (fun _ _ h => h)
      have hfb : b7_6 ∉ fs.map (·.fb) := by
        intro h
        obtain ⟨y, hy, e⟩ := List.mem_map.1 h
        obtain ⟨_, _, _, f1, _⟩ := h8 y hy
        rw [e, hb7_6] at f1; cases f1
      have hff : FileAt (ρ.set b7_6 (.fil b7_6)) I1_2 (ah.set b7_6 (.cells [.slice none 0 0, .slice none 0 0])) b7_6 [] [] := ⟨_, _, [], AH.set_same _ _ _, by simp [Roles.set], Rgt.nil _ _ _ _, Rgt.nil _ _ _ _, Rows.nil _⟩
      generalize ah.set b7_6 (.cells [.slice none 0 0, .slice none 0 0]) = ah2 at hE0 eN h1' h3' h8' hff ⊢
      refine WL_op rfl (OE_mapUpdate und_m_string_p_disk_file und_string rfl rfl rfl h3') ?_
      rintro _ I7_7 ah7_7 ⟨rfl, rfl, rfl⟩
      refine WL_nil ?_
      have hDP := DiskAt.put (x := { name := k, born := clk, fb := b7_6, data := [], parts := [] }) (fs := fs) h1' h2' h4' h5 h6 h7 h8' hfb hff
      have hpe := putF_ents { name := k, born := clk, fb := b7_6, data := [], parts := [] } fs
      dsimp only at hpe
      rw [← hpe]
      have hco := cof_put { name := k, born := clk, fb := b7_6, data := [], parts := [] } fs
      obtain ⟨x, hx, hxc⟩ := cof_some (c := ([], [])) (k := k) (fs := putF { name := k, born := clk, fb := b7_6, data := [], parts := [] } fs) (by rw [hco]; simp [Cont.set, FE.co])
      have hxd : x.data = [] := congrArg Prod.fst hxc
      have hxp : x.parts = [] := congrArg Prod.snd hxc
      have hsz' : fsSize (putF { name := k, born := clk, fb := b7_6, data := [], parts := [] } fs) ≤ fsSize fs := putF_size { name := k, born := clk, fb := b7_6, data := [], parts := [] } fs
      exact QA_join _ ⟨_, _, x, rfl, IM.le.refl _, hE0.trans hDP.1, hDP.2, hx, putF_names hN, (putF_size0 hl).trans (by simp [FE.sz]), ⟨by omega, hF2, fun y hy p hp => by
          rcases mem_putF hy with h | ⟨_, _, _, e, _⟩
          · exact hF.2.2 y h p hp
          · rw [e] at hp; cases hp⟩, by rw [hxd, hxp, hc0]; rfl, fun j hj => by rw [hco]; exact if_neg hj⟩ (by repeat (first | exact .nil | refine .cons rfl ?_))
    · rename_i x
      have hx : lookF k fs = some x := hl
      have hc0 : cof fs k = some (x.data, x.parts) := by unfold cof; rw [hl]; rfl
      have hg : getL k (fs.map FE.ent) = some (.pointer (some ⟨x.fb, 0, none⟩)) := by rw [getL_ents, hl]; rfl
      refine CW_region (l := [_, _, _, _, _, _, _]) ?_
      refine WL_val rfl (PE_move rfl) ?_
      refine WL_val rfl (PE_nilCheck rfl) ?_
      refine WL_val rfl (PE_fieldAddr fa_disk_Disk_1 rfl) ?_
      refine WL_val rfl (PE_load tc_m_string_p_disk_file rfl (.own h1 rfl)) ?_
      refine WL_val rfl (PE_move rfl) ?_
      refine WL_val rfl (PE_lookup1 und_m_string_p_disk_file und_string rfl rfl h3 hg false) ?_
      refine WL_val rfl (PE_eqpn und_p_disk_file rfl rfl rfl) ?_
      refine WL_nil ?_
      refine QA_seq ?_
      refine CW_false rfl ?_
      refine CW_skip ?_
      exact QA_join _ ⟨ρ, fs, x, rfl, IM.le.refl _, Evo.refl _ _ _, hd0, hx, hN, rfl, hF, by rw [hc0]; rfl, fun _ _ => rfl⟩ (by repeat (first | exact .nil | refine .cons rfl ?_))
  · rintro _ I2 A2 ⟨ρ1, fs1, x, rfl, hI2, hE1, hd1, hx1, hN1, hsz1, hF1', hset, hoth⟩
    have hd1' := hd1
    obtain ⟨m1, clk1, k1, k2, k3, k4, k5, k6, k7, k8⟩ := hd1
    have hg1 : getL k (fs1.map FE.ent) = some (.pointer (some ⟨x.fb, 0, none⟩)) := by rw [getL_ents, hx1]; rfl
    have hxm := (lookF_mem hx1).1
    refine CW_seq ?_
    refine CW_region (l := [_, _, _, _, _, _, _]) ?_
    refine WL_val rfl (PE_move rfl) ?_
    refine WL_val rfl (PE_nilCheck rfl) ?_
    refine WL_val rfl (PE_fieldAddr fa_disk_Disk_1 rfl) ?_
    refine WL_val rfl (PE_load tc_m_string_p_disk_file rfl (.own k1 rfl)) ?_
    refine WL_val rfl (PE_move rfl) ?_
    refine WL_val rfl (PE_lookup1 und_m_string_p_disk_file und_string rfl rfl k3 hg1 false) ?_
    refine WL_val rfl (PE_assign rfl) ?_
    refine WL_nil ?_
    refine QA_seq ?_
    refine CW_seq ?_
    have hff1 := k8 x hxm
    obtain ⟨dv, tv, pvs, f1, f2, f3, f4, f5⟩ := hff1
    have hfx := hF1'.file hxm
    obtain ⟨ah0, go, gk', gn'⟩ := f4.own
    have f1' := gk' x.fb _ f1 (by rw [f2]; simp)
    refine CW_draw (l := [_, _, _, _, _, _, _, _, _, _, _, _]) 11 (ah0) mixed ?_
    refine WA_take 0 rfl (by kernel_rfl) (by kernel_rfl) (by kernel_rfl) (by kernel_rfl) rfl (by kernel_rfl) rfl (IM.le.refl _) (Own.base go) (PE_move rfl) ?_
    refine WA_take 1 rfl (by kernel_rfl) (by kernel_rfl) (by kernel_rfl) (by kernel_rfl) rfl (by kernel_rfl) rfl (IM.le.refl _) (Own.base go) (PE_move rfl) ?_
    refine WA_take 2 rfl (by kernel_rfl) (by kernel_rfl) (by kernel_rfl) (by kernel_rfl) rfl (by kernel_rfl) rfl (IM.le.refl _) (Own.base go) (PE_nilCheck rfl) ?_
    refine WA_take 3 rfl (by kernel_rfl) (by kernel_rfl) (by kernel_rfl) (by kernel_rfl) rfl (by kernel_rfl) rfl (IM.le.refl _) (Own.base go) (PE_fieldAddr fa_disk_file_1 rfl) ?_
    refine WA_take 4 rfl (by kernel_rfl) (by kernel_rfl) (by kernel_rfl) (by kernel_rfl) rfl (by kernel_rfl) rfl (IM.le.refl _) (Own.base go) (PE_load tc_sl_sl_uint8 rfl (.own f1' rfl)) ?_
    refine WA_take 5 rfl (by kernel_rfl) (by kernel_rfl) (by kernel_rfl) (by kernel_rfl) rfl (by kernel_rfl) rfl (IM.le.refl _) (Own.base go) (PE_move rfl) ?_
    refine WA_op 6 rfl rfl (by kernel_rfl) (OE_call (l := [_]) E_slices_Clone_sl_byte_byte rfl rfl (sclone_spec _ _ _ _ b (hv.mono hI2) (by omega))) ?_ ?_
    · rintro _ I9_6 ah9_6 ⟨v6, rfl, hI6, ho6, _⟩; exact ⟨hI6, fun b x e => Own.base ho6 b x (Own.base go b x e)⟩
    rintro _ I9_6 ah9_6 ⟨v6, rfl, hI6, ho6, _⟩
    refine WA_forget (Own.base ho6) ?_
    have hs6 := ho6.sl
    clear ho6
    obtain ⟨va, vc, rfl, _⟩ := SlI.form hs6
    refine WA_op 7 rfl rfl (by kernel_rfl) (OE_litI (l := [_]) (vs := [_]) und_sl_sl_uint8 te_sl_uint8 rfl rfl rfl (by simp [Value.cells]) (by decide) rfl rfl) ?_ ?_
    · rintro _ I9_7 ah9_7 ⟨v9_7, rfl, hI9_7, rfl, hv9_7, hn9_7⟩; exact ⟨hI6.trans hI9_7, Own.base go⟩
    rintro _ I9_7 ah9_7 ⟨v9_7, rfl, hI9_7, rfl, hv9_7, hn9_7⟩
    refine WA_op 8 rfl rfl (by kernel_rfl) (OE_append (n := x.parts.length) (m := 1) (vs := pvs) (us := [.slice va b.length vc]) und_sl_sl_uint8 ⟨_, und_sl_sl_uint8⟩ te_sl_uint8 rfl rfl rfl (go.mono (hI6.trans hI9_7)) (hv9_7.src _) (by simp [Value.oneCell']) (by decide) (by omega) (by omega)) ?_ ?_
    · rintro _ I9_8 ah9_8 ⟨v9_8, rfl, hI9_8, hv9_8, hn9_8⟩; exact ⟨(hI6.trans hI9_7).trans hI9_8, Own.base hv9_8⟩
    rintro _ I9_8 ah9_8 ⟨v9_8, rfl, hI9_8, hv9_8, hn9_8⟩
    obtain ⟨na, nc, rfl, _⟩ := SlI.form hv9_8.sl
    obtain ⟨ρ2, hr2, he2, _⟩ := Rgt.of (ρ := ρ1) (S := fun r => r = .prt x.fb) hv9_8 gk' gn' rfl
    have f1'' := Own.base hv9_8 _ _ f1'
    have f2'' := (he2 x.fb _ f1 (by rw [f2]; simp)).2.trans f2
    refine WA_take 9 rfl (by kernel_rfl) (by kernel_rfl) (by kernel_rfl) (by kernel_rfl) rfl (by kernel_rfl) rfl ((hI6.trans hI9_7).trans hI9_8) (Own.base hv9_8) (PE_nilCheck rfl) ?_
    refine WA_take 10 rfl (by kernel_rfl) (by kernel_rfl) (by kernel_rfl) (by kernel_rfl) rfl (by kernel_rfl) rfl ((hI6.trans hI9_7).trans hI9_8) (Own.base hv9_8) (PE_fieldAddr fa_disk_file_1 rfl) ?_
    refine WA_last 11 rfl rfl (by kernel_rfl) (by kernel_rfl) (OE_store tc_sl_sl_uint8 rfl rfl rfl f1'' (by simp)) ?_
    rintro _ I9_11 ah9_11 ⟨rfl, rfl, rfl⟩
    refine WA_done (by kernel_rfl) ?_
    refine QA_seq ?_
    refine CW_seq ?_
    refine CW_region (l := [_]) ?_
    refine WL_val rfl (PE_assign rfl) ?_
    refine WL_nil ?_
    refine QA_seq ?_
    refine CW_ret ?_
    refine QA_return (rs := [_]) rfl rfl (hI1_2.trans (hI2.trans ((hI6.trans hI9_7).trans hI9_8))) (_) (fun _ _ h => h) ?_
    rw [List.set_cons_succ, List.set_cons_zero]
    have hII := (hI6.trans hI9_7).trans hI9_8
    have hU := DiskAt.upd (ρ' := ρ2) hd1' hx1 ((he2.mono (by rintro r rfl; exact .inr (.inr rfl))).trans (Evo.set _ (by rw [f2'']; exact .inl rfl))) hII (fun y => { y with parts := y.parts ++ [b] }) (fun y => ⟨rfl, rfl, rfl⟩)
      (FileAt.put (pvs := pvs ++ [.slice va b.length vc]) f2'' ((f3.mono hII).evo he2 (by simp)) (by rw [List.length_append]; exact hr2) ((f5.mono hII).snoc (hs6.mono (hI9_7.trans hI9_8))))
    have hFU := hF1'.upd k7 hx1 hb (by omega)
    exact ⟨hI1_2.trans (hI2.trans hII), rfl, ρ2, hE1.trans hU.1, _, hU.2, hFU.1, by rw [updF_map (fun y => y.name) k (fun y => { y with parts := y.parts ++ [b] }) (fun y => rfl)]; exact hN1, by rw [hFU.2]; omega, by
      rw [cof_upd k (fun y => { y with parts := y.parts ++ [b] }) (fun _ => rfl), hx1, ← hset]
      funext j; simp only [Cont.set, Option.map_some]
      by_cases hj : j = k
      · rw [if_pos hj, if_pos hj]; rfl
      · rw [if_neg hj, if_neg hj, hoth j hj]⟩

end Go.Proofs.YthdpebagkfloaaaDoor

