/- Bytes: one thing that is read back. -/
import Derived.Test.YtfcdldibfdoljaaTyW
set_option linter.unusedVariables false
set_option linter.unusedSimpArgs false
set_option linter.unusedSectionVars false
namespace Go.Proofs
open Go.Sh
set_option linter.unusedVariables false
attribute [local instance] heldNone
noncomputable section
/-- its bytes, as numbers -/
def It.zs (x : It) : List Int := if x.how = 1 then beZ 1 x.num else if x.how = 2 then beZ 2 x.num else if x.how = 3 then beZ 4 x.num else if x.how = 4 then beZ 2 x.text.length ++ x.text.map (fun c => (c.toNat : Int)) else []
theorem It.bs_zs (x : It) : x.bs = u8z x.zs := by
  unfold It.bs It.zs
  split
  · exact be_z _ _
  · split
    · exact be_z _ _
    · split
      · exact be_z _ _
      · split
        · rw [be_z, u8s_z, ← u8z_app]
        · rfl
theorem wrap_u8 (x : Int) : wrapS .u8 x = x % 256 := by
  rw [wrapS_eq]; unfold IntKind.wrap; simp [IntKind.bits, IntKind.signed]
theorem beZ_bytes : ∀ s x, IsBytes (beZ s x)
  | 0, _ => fun z h => by simp [beZ] at h
  | s + 1, x => fun z h => by
    rw [beZ, wrap_u8] at h
    rcases List.mem_cons.1 h with rfl | h
    · omega
    · exact beZ_bytes s x z h
theorem beZ_length : ∀ s x, (beZ s x).length = s
  | 0, _ => rfl
  | s + 1, x => by simp [beZ, beZ_length s x]
theorem It.zs_bytes (x : It) : IsBytes x.zs := by
  unfold It.zs
  split
  · exact beZ_bytes _ _
  · split
    · exact beZ_bytes _ _
    · split
      · exact beZ_bytes _ _
      · split
        · intro z h
          rcases List.mem_append.1 h with h | h
          · exact beZ_bytes _ _ z h
          · obtain ⟨c, _, rfl⟩ := List.mem_map.1 h
            have := c.toNat_lt
            omega
        · intro z h; simp at h
theorem be_val (x : Int) : (beZ 1 x).foldl nstep 0 = x % 256 ∧ (beZ 2 x).foldl nstep 0 = x % 65536 ∧ (beZ 4 x).foldl nstep 0 = x % 4294967296 := by
  have f := fun s (hs : s ≤ 4) => (fold_val (fun v z => nstep_eq) (beZ s x) 0 0 (beZ_bytes s x) (by omega) (by simp) (by rw [beZ_length]; omega)).1
  rw [f 1 (by omega), f 2 (by omega), f 4 (by omega)]
  have p3 : (2 : Int) ^ (8 * 3) = 16777216 := by decide
  have p2 : (2 : Int) ^ (8 * 2) = 65536 := by decide
  have p1 : (2 : Int) ^ (8 * 1) = 256 := by decide
  have p0 : (2 : Int) ^ (8 * 0) = 1 := by decide
  simp only [beZ, val, wrap_u8, List.foldl, p0, p1, p2, p3]
  rw [Int.fdiv_eq_ediv_of_nonneg _ (by omega), Int.fdiv_eq_ediv_of_nonneg _ (by omega), Int.fdiv_eq_ediv_of_nonneg _ (by omega), Int.fdiv_eq_ediv_of_nonneg _ (by omega)]
  omega
theorem take_app {α : Type} (a b : List α) (n : Nat) (h : a.length = n) : (a ++ b).take n = a := by subst h; simp
/-- What is read of it. -/
def got (zs : List Int) (n a : Nat) (f : Bool) (x : It) : Bool :=
  if x.how = 1 then eqI (if fits n a f 1 then numAt zs a 1 else 0) x.num
  else if x.how = 2 then eqI (if fits n a f 2 then numAt zs a 2 else 0) x.num
  else if x.how = 3 then eqI (IntKind.i64.wrap (IntKind.i32.wrap (if fits n a f 4 then numAt zs a 4 else 0))) x.num
  else eqB (if textFits zs n a f then bytesZ ((zs.drop (a + 2)).take (lenAt zs a)) else []) x.text
def fit (zs : List Int) (n a : Nat) (f : Bool) (x : It) : Bool :=
  if x.how = 1 then fits n a f 1 else if x.how = 2 then fits n a f 2 else if x.how = 3 then fits n a f 4 else textFits zs n a f
def broad (zs : List Int) (a : Nat) (x : It) : Nat := if x.how = 1 then 1 else if x.how = 2 then 2 else if x.how = 3 then 4 else 2 + lenAt zs a
theorem Try.readsOf {h : H} {p n a : Nat} {f : Bool} {zs : List Int} {b : SV} (r : Rdr h p n (u8z zs) a f b) (hb : IsBytes zs) (x : It) :
    ∃ h', Try.lc 24 [.ptr p 0, .agg x.cells] h = some (.bool (got zs n a f x), h') ∧ Rdr h' p n (u8z zs) (if fit zs n a f x then a + broad zs a x else a) (!fit zs n a f x) b ∧ Fr (· = p) (· = p) h h' := by
  have f1 : Fr (fun _ => False) (fun _ => False) h (h.push (.cells x.cells .fixed)) := .push
  have hrow : rowCells (h.push (.cells x.cells .fixed)).get h.next = some x.cells := by unfold rowCells; rw [H.get_push, if_pos rfl]
  have hp : p < h.next := H.get_lt r.row
  have hlt : h.next < (h.push (.cells x.cells .fixed)).next := Nat.lt_succ_self _
  have r1 := r.keep f1 (fun k => k) fun _ _ k => k
  have hcell : (SV.agg x.cells).cells? = some x.cells := rfl
  generalize hh1 : h.push (.cells x.cells .fixed) = h1 at *
  have d0 : ∀ t, lLoad none (xC (.ptr h.next 0)) h1.get t = some (.int .i64 x.how) := fun t => load_one hrow t
  have fin : ∀ {h2 : H}, Fr (· = p) (· = p) h1 h2 → Fr (· = p) (· = p) h h2 := fun f2 => (f1.mono (fun _ _ k => k.elim) fun _ k => k.elim).trans f2
  have later : ∀ {h2 : H}, Fr (· = p) (· = p) h1 h2 → ∀ (j : Nat) v, x.cells[j]? = some v → (∀ t, lLoad none (xC (.ptr h.next j)) h2.get t = some v) ∧ (∀ t, lLoad none (xC (.ptr h.next j)) (mixTo h1 h2 h2.next) t = some v) := fun {h2} f2 j v hv => by
    have e1 : rowCells h2.get h.next = some x.cells := (rowCells_keep f2 hlt (by show ¬ h.next = p; omega)).trans hrow
    exact ⟨fun t => by rw [load_one e1, hv], fun t => by rw [load_one ((rowCells_mix hlt).trans hrow), hv]⟩
  by_cases q1 : x.how = 1
  · obtain ⟨h2, k1, k2, k3⟩ := Try.ru1 r1
    obtain ⟨c1, c2⟩ := later k3 1 _ rfl
    refine ⟨h2, Try.en (n := 1) (kf := Try.k24) (by kernel_rfl) ?_, by simpa [fit, broad, q1] using k2, fin k3⟩
    rw [Try.k24_eq, enter_eq]
    simp [argsP, ↓ kq, kq, ↓ ko, ko, kb, kv, kx, hcell, hh1, d0, eqI_eq, q1, k1, c1, c2, eqS1_int, kfin, kresL, kres, oneS, got, -bO_of, -bB_true, -bB_false]
  by_cases q2 : x.how = 2
  · obtain ⟨h2, k1, k2, k3⟩ := Try.ru2 r1
    obtain ⟨c1, c2⟩ := later k3 1 _ rfl
    refine ⟨h2, Try.en (n := 1) (kf := Try.k24) (by kernel_rfl) ?_, by simpa [fit, broad, q2] using k2, fin k3⟩
    rw [Try.k24_eq, enter_eq]
    simp [argsP, ↓ kq, kq, ↓ ko, ko, kb, kv, kx, hcell, hh1, d0, eqI_eq, q2, k1, c1, c2, eqS1_int, kfin, kresL, kres, oneS, got, -bO_of, -bB_true, -bB_false]
  by_cases q3 : x.how = 3
  · obtain ⟨h2, k1, k2, k3⟩ := Try.ri4 r1
    obtain ⟨c1, c2⟩ := later k3 1 _ rfl
    refine ⟨h2, Try.en (n := 1) (kf := Try.k24) (by kernel_rfl) ?_, by simpa [fit, broad, q3] using k2, fin k3⟩
    rw [Try.k24_eq, enter_eq]
    simp [argsP, ↓ kq, kq, ↓ ko, ko, kb, kv, kx, hcell, hh1, d0, eqI_eq, q3, k1, c1, c2, eqS1_int, kfin, kresL, kres, oneS, got, -bO_of, -bB_true, -bB_false]
  obtain ⟨h2, k1, k2, k3⟩ := Try.rtext r1 (numAt_lt hb a 2 (by omega)).1
  obtain ⟨c1, c2⟩ := later k3 2 _ rfl
  refine ⟨h2, Try.en (n := 1) (kf := Try.k24) (by kernel_rfl) ?_, by simpa [fit, broad, q1, q2, q3, Nat.add_assoc] using k2, fin k3⟩
  rw [Try.k24_eq, enter_eq]
  simp [argsP, ↓ kq, kq, ↓ ko, ko, kb, kv, kx, hcell, hh1, d0, eqI_eq, q1, q2, q3, k1, c1, c2, eqS1_str, kfin, kresL, kres, oneS, got, -bO_of, -bB_true, -bB_false]
end
end Go.Proofs
