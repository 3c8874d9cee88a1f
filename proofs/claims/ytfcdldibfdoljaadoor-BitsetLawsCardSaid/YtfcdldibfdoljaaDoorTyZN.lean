/- Bitset: the reference's rising lists. -/
import Derived.Test.YtfcdldibfdoljaaDoorTyZM
set_option linter.unusedVariables false
set_option linter.unusedSimpArgs false
set_option linter.unusedSectionVars false
namespace Go.Proofs
open Go.Sh
set_option linter.unusedVariables false
attribute [local instance] tabHeld
noncomputable section
theorem i64s_append (a b : List Int) : i64s (a ++ b) = i64s a ++ i64s b := by simp [i64s]
theorem i64s_set (a : List Int) (i : Nat) (x : Int) : (i64s a).set i (.int .i64 x) = i64s (a.set i x) := by simp [i64s, List.map_set]
theorem gt_ltI (a b : Int) : (decide (a < b) = true) ↔ a < b := decide_eq_true_iff
/-- where a number goes: what stands at and behind it is above -/
def PosEnd (S : List Int) (z : Int) (t' : T) : Prop := ∃ a, getP (way 5) t' = some (.int .i64 (a : Nat)) ∧ a ≤ S.length ∧ (∀ y ∈ S.drop a, z < y) ∧ (∀ b, a = b + 1 → ∃ y, S[b]? = some y ∧ y ≤ z)
theorem Tryd.pos_loop {v out : SV} {h : H} {zs S : List Int} {z : Int} {i : Nat} (w : View h 1 v zs.length (i64s zs)) (hi : i < zs.length) (hz : zs[i]? = some z) (wo : View h 1 out S.length (i64s S)) (hS : S.length < 4294967296) : ∀ (a k : Nat) (t : T), a ≤ S.length → a < k → (∀ y ∈ S.drop a, z < y) →
    getP (way 0) t = some v → getP (way 3) t = some out → getP (way 4) t = some (.int .i64 i) → getP (way 5) t = some (.int .i64 a) →
    Gets (cLoop Tryd.l20_1 k Tryd.lc t h) fun fl t' h' => fl = .exit 2 ∧ h' = h ∧ getP (way 0) t' = some v ∧ getP (way 3) t' = some out ∧ getP (way 4) t' = some (.int .i64 i) ∧ PosEnd S z t' := by
  intro a
  obtain ⟨pA, x2, x3⟩ := w.loadV (i := i) (by omega)
  have x3 : loadV none h.get pA = some (.int .i64 z) := by
    rw [x3, i64s, List.getElem?_map, hz]; rfl
  induction a with
  | zero =>
    intro k t ha hk hup t0 t3 t4 t5
    obtain ⟨k, rfl⟩ : ∃ m, k = m + 1 := ⟨k - 1, by omega⟩
    rw [loop_succ]
    generalize (fun t h => cLoop Tryd.l20_1 k Tryd.lc t h) = L
    unfold Tryd.l20_1
    have e1 : ltI 0 0 = false := rfl
    have t5 : getP (way 5) t = some (.int .i64 0) := t5
    simp [↓ kq, kq, ↓ ko, ko, kb, kv, kt, kx, t0, t3, t4, t5, e1, gets_some, -bO_of, -bB_true, -bB_false, -H.next_push, -Int.natCast_add]
    exact ⟨0, by simp [kq, t5], by omega, hup, fun b hb => by omega⟩
  | succ a ih =>
    intro k t ha hk hup t0 t3 t4 t5
    obtain ⟨k, rfl⟩ : ∃ m, k = m + 1 := ⟨k - 1, by omega⟩
    rw [loop_succ]
    generalize hL : (fun t h => cLoop Tryd.l20_1 k Tryd.lc t h) = L
    unfold Tryd.l20_1
    have e1 : ltI 0 ((a + 1 : Nat) : Int) = true := by rw [ltI_eq]; exact decide_eq_true (by omega)
    have e2 : IntKind.i64.wrap (((a + 1 : Nat) : Int) - 1) = (a : Int) := by
      rw [show ((a + 1 : Nat) : Int) - 1 = (a : Int) by omega]; exact wrap_i64 (by omega) (by omega)
    obtain ⟨pB, y2, y3⟩ := wo.loadV (i := a) (by omega)
    rw [i64s_get S a (by omega)] at y3
    have hd : S.drop a = S[a] :: S.drop (a + 1) := List.drop_eq_getElem_cons (by omega)
    have hg : S[a]? = some S[a] := List.getElem?_eq_getElem (by omega)
    generalize hy : S[a] = y at *
    by_cases e : z < y
    · have e3 : ltI z y = true := by rw [ltI_eq]; exact decide_eq_true e
      simp [↓ kq, kq, ↓ ko, ko, kb, kv, kt, kx, t0, t3, t4, t5, e1, e2, e3, x2, x3, y2, y3, -bO_of, -bB_true, -bB_false, -H.next_push, -Int.natCast_add]
      rw [← hL]
      refine ih k _ (by omega) (by omega) ?_ ?_ ?_ ?_ ?_
      · intro u hu
        rw [hd] at hu
        rcases List.mem_cons.1 hu with rfl | hu
        · exact e
        · exact hup u hu
      · simp [kq, t0]
      · simp [kq, t3]
      · simp [kq, t4]
      · simp [kq]
    · have e3 : ltI z y = false := by rw [ltI_eq]; exact decide_eq_false e
      have hend : ∀ t', getP (way 5) t' = getP (way 5) t → PosEnd S z t' := fun t' e5 => ⟨a + 1, by rw [e5]; exact t5, by omega, hup, fun b hb => ⟨y, by rw [show b = a by omega]; exact hg, by omega⟩⟩
      simp [↓ kq, kq, ↓ ko, ko, kb, kv, kt, kx, t0, t3, t4, t5, e1, e2, e3, x2, x3, y2, y3, gets_some, -bO_of, -bB_true, -bB_false, -H.next_push, -Int.natCast_add]
      exact hend _ (by simp [kq])
/-- moving up what stands behind a place -/
theorem Tryd.shift_loop {hb : H} {S : List Int} {a : Nat} {v : SV} {i : Nat} (hS : S.length < 65536) : ∀ (j b k : Nat) (t : T) (h : H) (out : SV), a + j = b → b ≤ S.length → j < k → Gro h hb.next 1 out (S.length + 1) (i64s ((S ++ [0]).take (b + 1) ++ S.drop b)) → Fr (fun _ => False) (fun _ => False) hb h →
    getP (way 0) t = some v → getP (way 3) t = some out → getP (way 4) t = some (.int .i64 i) → getP (way 5) t = some (.int .i64 a) → getP (way 6) t = some (.int .i64 b) →
    Gets (cLoop Tryd.l20_0 k Tryd.lc t h) fun fl t' h' => fl = .exit 4 ∧ getP (way 0) t' = some v ∧ getP (way 3) t' = some out ∧ getP (way 4) t' = some (.int .i64 i) ∧ getP (way 5) t' = some (.int .i64 a) ∧ Gro h' hb.next 1 out (S.length + 1) (i64s ((S ++ [0]).take (a + 1) ++ S.drop a)) ∧ Fr (fun _ => False) (fun _ => False) hb h' := by
  intro j
  induction j with
  | zero =>
    intro b k t h out hb' hbl hk g fb t0 t3 t4 t5 t6
    obtain ⟨k, rfl⟩ : ∃ m, k = m + 1 := ⟨k - 1, by omega⟩
    rw [loop_succ]
    generalize (fun t h => cLoop Tryd.l20_0 k Tryd.lc t h) = L
    unfold Tryd.l20_0
    obtain rfl : b = a := by omega
    have e1 : ltI (b : Int) b = false := by rw [ltI_eq]; exact decide_eq_false (by omega)
    simp [↓ kq, kq, ↓ ko, ko, kb, kv, kt, kx, t0, t3, t4, t5, t6, e1, gets_some, -bO_of, -bB_true, -bB_false, -H.next_push, -Int.natCast_add]
    exact ⟨g, fb⟩
  | succ j ih =>
    intro b k t h out hb' hbl hk g fb t0 t3 t4 t5 t6
    obtain ⟨k, rfl⟩ : ∃ m, k = m + 1 := ⟨k - 1, by omega⟩
    rw [loop_succ]
    generalize hL : (fun t h => cLoop Tryd.l20_0 k Tryd.lc t h) = L
    unfold Tryd.l20_0
    obtain ⟨b, rfl⟩ : ∃ c, b = c + 1 := ⟨b - 1, by omega⟩
    have e1 : ltI (a : Int) ((b + 1 : Nat) : Int) = true := by rw [ltI_eq]; exact decide_eq_true (by omega)
    have e2 : IntKind.i64.wrap (((b + 1 : Nat) : Int) - 1) = (b : Int) := by
      rw [show ((b + 1 : Nat) : Int) - 1 = (b : Int) by omega]; exact wrap_i64 (by omega) (by omega)
    obtain ⟨pB, y2, y3⟩ := g.view.loadV (i := b) (by omega)
    have ht : ((S ++ [0]).take (b + 1 + 1)).length = b + 1 + 1 := by simp; omega
    have hl : ((S ++ [0]).take (b + 1 + 1) ++ S.drop (b + 1)).length = S.length + 1 := by rw [List.length_append, ht, List.length_drop]; omega
    rw [i64s_get _ b (by omega)] at y3
    have hy : ((S ++ [0]).take (b + 1 + 1) ++ S.drop (b + 1))[b]'(by omega) = S[b] := by
      rw [List.getElem_append_left (by omega), List.getElem_take, List.getElem_append_left (by omega)]
    rw [hy] at y3
    obtain ⟨pC, h2, z2, z3, z4, z5⟩ := g.store (i := b + 1) (by omega) (x := .int .i64 S[b]) rfl
    rw [i64s_set] at z4
    have hset : (((S ++ [0]).take (b + 1 + 1) ++ S.drop (b + 1)).set (b + 1) S[b]) = (S ++ [0]).take (b + 1) ++ S.drop b := by
      rw [List.set_append_left _ _ (by omega), List.drop_eq_getElem_cons (show b < S.length by omega), List.take_succ_eq_append_getElem (show b + 1 < (S ++ [0]).length by simp; omega)]
      rw [List.set_append_right _ _ (by simp; omega)]
      have : (b + 1 - (List.take (b + 1) (S ++ [0])).length) = 0 := by simp; omega
      rw [this, List.append_assoc]
      rfl
    rw [hset] at z4
    generalize S[b] = y at *
    simp [↓ kq, kq, ↓ ko, ko, kb, kv, kt, kx, t0, t3, t4, t5, t6, e1, e2, y2, y3, z2, z3, -bO_of, -bB_true, -bB_false, -H.next_push, -Int.natCast_add]
    rw [← hL]
    refine ih b k _ h2 out (by omega) (by omega) (by omega) z4 (Fr.new fb z5 (fun q e => e) (fun q e => e)) ?_ ?_ ?_ ?_ ?_
    · simp [kq, t0]
    · simp [kq, t3]
    · simp [kq, t4]
    · simp [kq, t5]
    · simp [kq]
/-- a number among others that rise -/
theorem insert_rises {S : List Int} (hS : S.Pairwise (· < ·)) {z : Int} {a : Nat} (h1 : ∀ y ∈ S.drop a, z < y) (h2 : ∀ b, a = b + 1 → ∃ y, S[b]? = some y ∧ y ≤ z) (hz : ∀ b, a = b + 1 → S[b]? ≠ some z) : (S.take a ++ z :: S.drop a).Pairwise (· < ·) ∧ ∀ x, x ∈ S.take a ++ z :: S.drop a ↔ x ∈ S ∨ x = z := by
  have hlow : ∀ y ∈ S.take a, y < z := fun y hy => by
    obtain ⟨c, hc, rfl⟩ := List.mem_iff_getElem.1 hy
    have hc : c < a ∧ c < S.length := by rw [List.length_take] at hc; omega
    obtain ⟨b, rfl⟩ : ∃ b, a = b + 1 := ⟨a - 1, by omega⟩
    obtain ⟨y, e1, e2⟩ := h2 b rfl
    obtain ⟨hb, rfl⟩ := List.getElem?_eq_some_iff.1 e1
    have hne : S[b] ≠ z := fun e => hz b rfl (by rw [e1, e])
    rw [List.getElem_take]
    rcases Nat.lt_or_ge c b with h | h
    · have := List.pairwise_iff_getElem.1 hS c b (by omega) hb h
      omega
    · have : c = b := by omega
      subst this; omega
  have hsplit := List.take_append_drop a S
  have hp := hS
  rw [← hsplit, List.pairwise_append] at hp
  refine ⟨?_, fun x => ?_⟩
  · rw [List.pairwise_append]
    refine ⟨hp.1, List.pairwise_cons.2 ⟨h1, hp.2.1⟩, fun x hx y hy => ?_⟩
    rcases List.mem_cons.1 hy with rfl | hy
    · exact hlow x hx
    · exact hp.2.2 x hx y hy
  · rw [List.mem_append, List.mem_cons]
    constructor
    · rintro (h | rfl | h)
      · exact .inl (List.mem_of_mem_take h)
      · exact .inr rfl
      · exact .inl (List.mem_of_mem_drop h)
    · rintro (h | rfl)
      · rw [← hsplit, List.mem_append] at h
        rcases h with h | h
        · exact .inl h
        · exact .inr (.inr h)
      · exact .inr (.inl rfl)
def RiseEnd (hb : H) (zs : List Int) (t' : T) (h' : H) : Prop := ∃ out S, getP (way 3) t' = some out ∧ Gro h' hb.next 1 out S.length (i64s S) ∧ S.Pairwise (· < ·) ∧ (∀ x, x ∈ S ↔ x ∈ zs) ∧ S.length ≤ zs.length ∧ Fr (fun _ => False) (fun _ => False) hb h'
theorem Tryd.rise_loop {hb : H} {v : SV} {zs : List Int} (w : View hb 1 v zs.length (i64s zs)) (hl : zs.length < 60000) : ∀ (j i k : Nat) (t : T) (h : H) (out : SV) (S : List Int), i + j = zs.length → j + zs.length + 3 < k → Gro h hb.next 1 out S.length (i64s S) → S.Pairwise (· < ·) → (∀ x, x ∈ S ↔ x ∈ zs.take i) → S.length ≤ i → Fr (fun _ => False) (fun _ => False) hb h →
    getP (way 0) t = some v → getP (way 3) t = some out → getP (way 4) t = some (.int .i64 i) →
    Gets (cLoop Tryd.l20_2 k Tryd.lc t h) fun fl t' h' => fl = .exit 0 ∧ RiseEnd hb zs t' h' := by
  intro j
  induction j with
  | zero =>
    intro i k t h out S hi hk g hS hm hn fb t0 t3 t4
    obtain ⟨k, rfl⟩ : ∃ m, k = m + 1 := ⟨k - 1, by omega⟩
    rw [loop_succ]
    generalize (fun t h => cLoop Tryd.l20_2 k Tryd.lc t h) = L
    unfold Tryd.l20_2
    have e1 : ltI (i : Int) zs.length = false := by rw [ltI_eq]; exact decide_eq_false (by omega)
    simp [↓ kq, kq, ↓ ko, ko, kb, kv, kt, kx, t0, t3, t4, w.length, e1, gets_some, -bO_of, -bB_true, -bB_false, -H.next_push, -Int.natCast_add]
    rw [List.take_of_length_le (by omega)] at hm
    exact ⟨out, S, by simp [kq, t3], g, hS, hm, by omega, fb⟩
  | succ j ih =>
    intro i k t h out S hi hk g hS hm hn fb t0 t3 t4
    obtain ⟨k, rfl⟩ : ∃ m, k = m + 1 := ⟨k - 1, by omega⟩
    rw [loop_succ]
    generalize hL : (fun t h => cLoop Tryd.l20_2 k Tryd.lc t h) = L
    unfold Tryd.l20_2
    have e1 : ltI (i : Int) zs.length = true := by rw [ltI_eq]; exact decide_eq_true (by omega)
    have e2 : IntKind.i64.wrap ((i : Int) + 1) = ((i + 1 : Nat) : Int) := by
      rw [Int.natCast_add]; exact wrap_i64 (by omega) (by omega)
    obtain ⟨z, hz⟩ : ∃ z, zs[i]? = some z := ⟨zs[i]'(by omega), List.getElem?_eq_getElem (by omega)⟩
    have hmem : ∀ x, x ∈ zs.take (i + 1) ↔ x ∈ zs.take i ∨ x = z := fun x => by
      obtain ⟨hi', rfl⟩ := List.getElem?_eq_some_iff.1 hz
      rw [List.take_succ_eq_append_getElem hi', List.mem_append, List.mem_singleton]
    have w' := w.keep fb fun _ _ k => k
    simp [↓ kq, kq, ↓ ko, ko, kb, kv, kt, kx, t0, t3, t4, w.length, g.view.length, e1, -bO_of, -bB_true, -bB_false, -H.next_push, -Int.natCast_add]
    refine gets_next (gets_next (gets_leave (gets_next (gets_leave (Gets.mono (Tryd.pos_loop w' (by omega) hz g.view (by omega) S.length (k + 1) _ (Nat.le_refl _) (by omega) (by rw [List.drop_length]; simp) ?_ ?_ ?_ ?_) fun fl t' h' ⟨b1, b2, b3, b4, b5, a, b6, b7, b8, b9⟩ => ?_)))))
    · simp [kq, t0]
    · simp [kq, t3]
    · simp [kq, t4]
    · simp [kq]
    subst b1 b2
    obtain ⟨pA, x2, x3⟩ := w'.loadV (i := i) (by omega)
    have x3 : loadV none h'.get pA = some (.int .i64 z) := by
      rw [x3, i64s, List.getElem?_map, hz]; rfl
    have again : ∀ t2 h2 out2 S2, Gro h2 hb.next 1 out2 S2.length (i64s S2) → S2.Pairwise (· < ·) → (∀ x, x ∈ S2 ↔ x ∈ zs.take (i + 1)) → S2.length ≤ i + 1 → Fr (fun _ => False) (fun _ => False) hb h2 → getP (way 0) t2 = some v → getP (way 3) t2 = some out2 → getP (way 4) t2 = some (.int .i64 ((i + 1 : Nat) : Int)) → Gets (L t2 h2) fun fl t' h' => fl = .exit 0 ∧ RiseEnd hb zs t' h' := fun t2 h2 out2 S2 q1 q2 q3 q4 q5 q6 q7 q8 => by
      rw [← hL]
      exact ih (i + 1) k t2 h2 out2 S2 (by omega) (by omega) q1 q2 q3 q4 q5 q6 q7 q8
    have notin : (∀ b, a = b + 1 → S[b]? ≠ some z) → ∃ out2 h3, kappend (h'.push (.cells [.int .i64 0] .fixed)) 8 1 1 [.int .i64 0] out = some (out2, h3) ∧ Gro h3 hb.next 1 out2 (S.length + 1) (i64s (S ++ [0])) ∧ Fr (fun _ => False) (fun _ => False) hb h3 := fun _ => by
      have fp : Fr (fun _ => False) (fun _ => False) h' (h'.push (.cells [.int .i64 0] .fixed)) := .push
      obtain ⟨out2, h3, k1, k2, k3⟩ := (g.keep fp fun _ _ k => k).append (bytes := 8) 1 [.int .i64 0] rfl (by omega) (Nat.le_trans fb.next fp.next)
      exact ⟨out2, h3, k1, by rw [i64s_append]; exact k2, Fr.new (fb.trans fp) k3 (fun q e => e) (fun q e => e.elim)⟩
    have fin : ∀ out2 h3, (∀ b, a = b + 1 → S[b]? ≠ some z) → Gro h3 hb.next 1 out2 (S.length + 1) (i64s ((S ++ [0]).take (a + 1) ++ S.drop a)) → Fr (fun _ => False) (fun _ => False) hb h3 → ∃ pC h4, atIdx 1 a out2 = some pC ∧ storeV 1 h3 pC (.int .i64 z) = some (.tuple [], h4) ∧ Gro h4 hb.next 1 out2 (S.take a ++ z :: S.drop a).length (i64s (S.take a ++ z :: S.drop a)) ∧ Fr (fun _ => False) (fun _ => False) hb h4 ∧ View h3 1 v zs.length (i64s zs) := fun out2 h3 hne g3 f3 => by
      obtain ⟨pC, h4, z1, z2, z3, z4⟩ := g3.store (i := a) (by omega) (x := .int .i64 z) rfl
      rw [i64s_set] at z3
      have ht : ((S ++ [0]).take a).length = a := by simp; omega
      have hset : (((S ++ [0]).take (a + 1) ++ S.drop a).set a z) = S.take a ++ z :: S.drop a := by
        rw [List.take_succ_eq_append_getElem (show a < (S ++ [0]).length by simp; omega), List.append_assoc, List.set_append_right _ _ (by omega), ht, Nat.sub_self, List.take_append_of_le_length b7]
        rfl
      rw [hset] at z3
      have hlen : (S.take a ++ z :: S.drop a).length = S.length + 1 := by simp; omega
      rw [← hlen] at z3
      exact ⟨pC, h4, z1, z2, z3, Fr.new f3 z4 (fun q e => e) (fun q e => e), w.keep f3 fun _ _ k => k⟩
    by_cases hin : ∃ b, a = b + 1 ∧ S[b]? = some z
    · obtain ⟨b, rfl, hb1⟩ := hin
      have e3 : ltI 0 ((b + 1 : Nat) : Int) = true := by rw [ltI_eq]; exact decide_eq_true (by omega)
      have e4 : IntKind.i64.wrap (((b + 1 : Nat) : Int) - 1) = (b : Int) := by
        rw [show ((b + 1 : Nat) : Int) - 1 = (b : Int) by omega]; exact wrap_i64 (by omega) (by omega)
      obtain ⟨pB, y2, y3⟩ := g.view.loadV (i := b) (by omega)
      have y3 : loadV none h'.get pB = some (.int .i64 z) := by
        rw [y3, i64s, List.getElem?_map, hb1]; rfl
      have e5 : eqI z z = true := by rw [eqI_eq]; simp
      simp [↓ kq, kq, ↓ ko, ko, kb, kv, kt, kx, b3, b4, b5, b6, e2, e3, e4, e5, x2, x3, y2, y3, gets_some, -bO_of, -bB_true, -bB_false, -H.next_push, -Int.natCast_add]
      refine again _ h' out S g hS (fun x => ?_) (by omega) fb ?_ ?_ ?_
      · rw [hmem, hm]
        constructor
        · exact .inl
        · rintro (k | rfl)
          · exact k
          · exact (hm x).1 (List.mem_of_getElem? hb1)
      · simp [kq, b3]
      · simp [kq, b4]
      · simp [kq, -Int.natCast_add]
    have hne : ∀ b, a = b + 1 → S[b]? ≠ some z := fun b h1 h2 => hin ⟨b, h1, h2⟩
    obtain ⟨out2, h3, k1, k2, k3⟩ := notin hne
    have k1' : appendV 8 1 (h'.push (.cells [.int .i64 0] .fixed)) out (.slice h'.next 0 1 1 (some 1)) = some (out2, h3) := by
      have : rowCells (h'.push (.cells [.int .i64 0] .fixed)).get h'.next = some [.int .i64 0] := rowCells_push
      have src : srcCells (h'.push (.cells [.int .i64 0] .fixed)).get 1 1 (.slice h'.next 0 1 1 (some 1)) = some [.int .i64 0] := by
        simp only [srcCells, this]; rfl
      show bO (srcCells (h'.push (.cells [.int .i64 0] .fixed)).get 1 1 (.slice h'.next 0 1 1 (some 1))) _ = _
      rw [src]; exact k1
    generalize hh2 : h'.push (.cells [.int .i64 0] .fixed) = h2 at k1'
    have e6 : IntKind.i64.wrap (((S.length + 1 : Nat) : Int) - 1) = (S.length : Int) := by
      rw [show ((S.length + 1 : Nat) : Int) - 1 = (S.length : Int) by omega]; exact wrap_i64 (by omega) (by omega)
    have tail : ∀ t4 h4 out4, Gro h4 hb.next 1 out4 (S.take a ++ z :: S.drop a).length (i64s (S.take a ++ z :: S.drop a)) → Fr (fun _ => False) (fun _ => False) hb h4 → getP (way 0) t4 = some v → getP (way 3) t4 = some out4 → getP (way 4) t4 = some (.int .i64 ((i + 1 : Nat) : Int)) → Gets (L t4 h4) fun fl t' h' => fl = .exit 0 ∧ RiseEnd hb zs t' h' := fun t4 h4 out4 q1 q2 q3 q4 q5 => by
      obtain ⟨m1, m2⟩ := insert_rises hS b8 b9 hne
      refine again t4 h4 out4 _ q1 m1 (fun x => ?_) ?_ q2 q3 q4 q5
      · rw [m2, hmem, hm]
      · simp; omega
    rcases Nat.eq_zero_or_pos a with a0 | a0
    · have e3 : ltI 0 (a : Int) = false := by rw [ltI_eq]; exact decide_eq_false (by omega)
      simp [↓ kq, kq, ↓ ko, ko, kb, kv, kt, kx, b3, b4, b5, b6, e3, e6, hh2, k1', k2.view.length, -bO_of, -bB_true, -bB_false, -H.next_push, -Int.natCast_add]
      refine gets_next (gets_leave (Gets.mono (Tryd.shift_loop (i := i) (v := v) (a := a) (by omega) (S.length - a) S.length (k + 1) _ h3 out2 (by omega) (Nat.le_refl _) (by omega) (by rw [List.drop_length, List.append_nil, List.take_of_length_le (by simp)]; exact k2) k3 ?_ ?_ ?_ ?_ ?_) fun fl t4 h4 ⟨c1, c2, c3, c4, c5, c6, c7⟩ => ?_))
      · simp [kq, b3]
      · simp [kq]
      · simp [kq, b5]
      · simp [kq, b6]
      · simp [kq]
      subst c1
      obtain ⟨pC, h5, d1, d2, d3, d4, d5⟩ := fin out2 h4 hne c6 c7
      obtain ⟨pD, u2, u3⟩ := d5.loadV (i := i) (by omega)
      have u3 : loadV none h4.get pD = some (.int .i64 z) := by
        rw [u3, i64s, List.getElem?_map, hz]; rfl
      simp [↓ kq, kq, ↓ ko, ko, kb, kv, kt, kx, c2, c3, c4, c5, e2, u2, u3, d1, d2, gets_some, -bO_of, -bB_true, -bB_false, -H.next_push, -Int.natCast_add]
      refine tail _ h5 out2 d3 d4 ?_ ?_ ?_
      · simp [kq, c2]
      · simp [kq, c3]
      · simp [kq, -Int.natCast_add]

    · obtain ⟨b, rfl⟩ : ∃ c, a = c + 1 := ⟨a - 1, by omega⟩
      have e3 : ltI 0 ((b + 1 : Nat) : Int) = true := by rw [ltI_eq]; exact decide_eq_true (by omega)
      have e4 : IntKind.i64.wrap (((b + 1 : Nat) : Int) - 1) = (b : Int) := by
        rw [show ((b + 1 : Nat) : Int) - 1 = (b : Int) by omega]; exact wrap_i64 (by omega) (by omega)
      obtain ⟨y, y0, _⟩ := b9 b rfl
      obtain ⟨pB, y2, y3⟩ := g.view.loadV (i := b) (by omega)
      have y3 : loadV none h'.get pB = some (.int .i64 y) := by
        rw [y3, i64s, List.getElem?_map, y0]; rfl
      have e5 : eqI y z = false := by rw [eqI_eq]; exact decide_eq_false fun e => hne b rfl (by rw [y0, e])
      simp [↓ kq, kq, ↓ ko, ko, kb, kv, kt, kx, b3, b4, b5, b6, e3, e4, e5, e6, x2, x3, y2, y3, hh2, k1', k2.view.length, -bO_of, -bB_true, -bB_false, -H.next_push, -Int.natCast_add]
      refine gets_next (gets_leave (Gets.mono (Tryd.shift_loop (i := i) (v := v) (a := b + 1) (by omega) (S.length - (b + 1)) S.length (k + 1) _ h3 out2 (by omega) (Nat.le_refl _) (by omega) (by rw [List.drop_length, List.append_nil, List.take_of_length_le (by simp)]; exact k2) k3 ?_ ?_ ?_ ?_ ?_) fun fl t4 h4 ⟨c1, c2, c3, c4, c5, c6, c7⟩ => ?_))
      · simp [kq, b3]
      · simp [kq]
      · simp [kq, b5]
      · simp [kq, b6]
      · simp [kq]
      subst c1
      obtain ⟨pC, h5, d1, d2, d3, d4, d5⟩ := fin out2 h4 hne c6 c7
      obtain ⟨pD, u2, u3⟩ := d5.loadV (i := i) (by omega)
      have u3 : loadV none h4.get pD = some (.int .i64 z) := by
        rw [u3, i64s, List.getElem?_map, hz]; rfl
      simp [↓ kq, kq, ↓ ko, ko, kb, kv, kt, kx, c2, c3, c4, c5, e2, u2, u3, d1, d2, gets_some, -bO_of, -bB_true, -bB_false, -H.next_push, -Int.natCast_add]
      refine tail _ h5 out2 d3 d4 ?_ ?_ ?_
      · simp [kq, c2]
      · simp [kq, c3]
      · simp [kq, -Int.natCast_add]

theorem sorted_ext : ∀ {a b : List Int}, a.Pairwise (· < ·) → b.Pairwise (· < ·) → (∀ x, x ∈ a ↔ x ∈ b) → a = b
  | [], [], _, _, _ => rfl
  | [], y :: b, _, _, h => by have := (h y).2 (List.mem_cons_self ..); simp at this
  | x :: a, [], _, _, h => by have := (h x).1 (List.mem_cons_self ..); simp at this
  | x :: a, y :: b, ha, hb, h => by
    rw [List.pairwise_cons] at ha hb
    have e : x = y := by
      rcases List.mem_cons.1 ((h x).1 (List.mem_cons_self ..)) with e | e
      · exact e
      · rcases List.mem_cons.1 ((h y).2 (List.mem_cons_self ..)) with e' | e'
        · exact e'.symm
        · have := ha.1 y e'; have := hb.1 x e; omega
    subst e
    rw [sorted_ext ha.2 hb.2 fun z => ?_]
    constructor
    · intro hz
      rcases List.mem_cons.1 ((h z).1 (List.mem_cons_of_mem _ hz)) with e | e
      · subst e; have := ha.1 z hz; omega
      · exact e
    · intro hz
      rcases List.mem_cons.1 ((h z).2 (List.mem_cons_of_mem _ hz)) with e | e
      · subst e; have := hb.1 z hz; omega
      · exact e
/-- Those of a list that may be, rising, each once. -/
def mayN (zs : List Int) : List Nat := (List.range 65536).filter fun k => decide ((k : Int) ∈ zs)
theorem mayN_rises (zs : List Int) : (mayN zs).Pairwise (· < ·) := (range_pairwise 65536).filter _
theorem mem_mayN {zs : List Int} {k : Nat} : k ∈ mayN zs ↔ k < 65536 ∧ (k : Int) ∈ zs := by
  unfold mayN; rw [List.mem_filter, List.mem_range]; simp
theorem cast_rises {l : List Nat} (h : l.Pairwise (· < ·)) : (l.map fun (k : Nat) => (k : Int)).Pairwise (· < ·) := by
  rw [List.pairwise_map]; exact h.imp fun h => by omega
theorem ni_i64s (l : List Nat) : ni l = i64s (l.map fun (k : Nat) => (k : Int)) := by simp [ni, i64s]
def ok (z : Int) : Bool := decide (0 ≤ z) && decide (z < 65536)
theorem may_eq {zs S : List Int} (hS : S.Pairwise (· < ·)) (hm : ∀ x, x ∈ S ↔ x ∈ zs.filter ok) : S = (mayN zs).map fun (k : Nat) => (k : Int) := by
  refine sorted_ext hS (cast_rises (mayN_rises zs)) fun x => ?_
  rw [hm, List.mem_filter, List.mem_map]
  constructor
  · rintro ⟨h1, h2⟩
    have h2 : 0 ≤ x ∧ x < 65536 := by simpa [ok] using h2
    exact ⟨x.toNat, mem_mayN.2 ⟨by omega, by rw [show (x.toNat : Int) = x by omega]; exact h1⟩, by omega⟩
  · rintro ⟨k, h1, rfl⟩
    have := mem_mayN.1 h1
    exact ⟨this.2, by simp [ok]; omega⟩
def RiseRes (h : H) (zs : List Int) (r : SV) (h' : H) : Prop := ∃ S, View h' 1 r S.length (i64s S) ∧ S.Pairwise (· < ·) ∧ (∀ x, x ∈ S ↔ x ∈ zs) ∧ Fr (fun _ => False) (fun _ => False) h h' ∧ (∀ q, isRow r q → h.next ≤ q)
theorem Tryd.rising {v : SV} {h : H} {zs : List Int} (w : View h 1 v zs.length (i64s zs)) (hl : zs.length < 60000) : ∃ r h', Tryd.lc 20 [v] h = some (r, h') ∧ RiseRes h zs r h' := by
  refine Tryd.enG (n := zs.length + zs.length + 4) (kf := Tryd.k20) (by kernel_rfl) Tryd.k20_eq rfl ?_
  simp [↓ kq, kq, ↓ ko, ko, kb, kv, kt, kx, w.length, -bO_of, -bB_true, -bB_false, -H.next_push, -Int.natCast_add]
  refine gets_next (gets_leave (Gets.mono (Tryd.rise_loop (hb := h) w hl zs.length 0 (zs.length + zs.length + 4) _ h .nilslice [] (by omega) (by omega) .nil .nil (fun x => by simp) (Nat.le_refl _) .refl ?_ ?_ ?_) fun fl t' h2 ⟨b1, out, S, t3, g, h1, h2', h3, fb⟩ => ?_))
  · simp [kq]
  · simp [kq]
  · simp [kq]
  subst b1
  simp [↓ kq, kq, ↓ ko, ko, kb, kv, kt, kx, t3, gets_some, kc, oneS, -bO_of, -bB_true, -bB_false, -H.next_push, -Int.natCast_add]
  exact ⟨S, g.view, h1, h2', fb, g.row⟩
theorem Tryd.may_loop {hb : H} {v : SV} {zs : List Int} (w : View hb 1 v zs.length (i64s zs)) (hl : zs.length < 60000) : ∀ (j i k : Nat) (t : T) (h : H) (out : SV), i + j = zs.length → j < k → Gro h hb.next 1 out ((zs.take i).filter ok).length (i64s ((zs.take i).filter ok)) → Fr (fun _ => False) (fun _ => False) hb h →
    getP (way 0) t = some v → getP (way 3) t = some out → getP (way 4) t = some (.int .i64 i) →
    Gets (cLoop Tryd.l7_0 k Tryd.lc t h) fun fl t' h' => fl = .exit 0 ∧ ∃ out', getP (way 3) t' = some out' ∧ Gro h' hb.next 1 out' (zs.filter ok).length (i64s (zs.filter ok)) ∧ Fr (fun _ => False) (fun _ => False) hb h' := by
  intro j
  induction j with
  | zero =>
    intro i k t h out hi hk g fb t0 t3 t4
    obtain ⟨k, rfl⟩ : ∃ m, k = m + 1 := ⟨k - 1, by omega⟩
    rw [loop_succ]
    generalize (fun t h => cLoop Tryd.l7_0 k Tryd.lc t h) = L
    unfold Tryd.l7_0
    have e1 : ltI (i : Int) zs.length = false := by rw [ltI_eq]; exact decide_eq_false (by omega)
    rw [List.take_of_length_le (by omega)] at g
    simp [↓ kq, kq, ↓ ko, ko, kb, kv, kt, kx, t0, t3, t4, w.length, e1, gets_some, -bO_of, -bB_true, -bB_false, -H.next_push, -Int.natCast_add]
    exact ⟨g, fb⟩
  | succ j ih =>
    intro i k t h out hi hk g fb t0 t3 t4
    obtain ⟨k, rfl⟩ : ∃ m, k = m + 1 := ⟨k - 1, by omega⟩
    rw [loop_succ]
    generalize hL : (fun t h => cLoop Tryd.l7_0 k Tryd.lc t h) = L
    unfold Tryd.l7_0
    have e1 : ltI (i : Int) zs.length = true := by rw [ltI_eq]; exact decide_eq_true (by omega)
    have e2 : IntKind.i64.wrap ((i : Int) + 1) = ((i + 1 : Nat) : Int) := by
      rw [Int.natCast_add]; exact wrap_i64 (by omega) (by omega)
    have w' := w.keep fb fun _ _ k => k
    obtain ⟨pA, x2, x3⟩ := w'.loadV (i := i) (by omega)
    rw [i64s_get zs i (by omega)] at x3
    have hts : zs.take (i + 1) = zs.take i ++ [zs[i]] := List.take_succ_eq_append_getElem (by omega)
    generalize zs[i] = z at *
    have hfl : ((zs.take i).filter ok).length ≤ 60000 := by
      have := List.length_filter_le ok (zs.take i); rw [List.length_take] at this; omega
    have again : ∀ t2 h2 out2, Gro h2 hb.next 1 out2 ((zs.take (i + 1)).filter ok).length (i64s ((zs.take (i + 1)).filter ok)) → Fr (fun _ => False) (fun _ => False) hb h2 → getP (way 0) t2 = some v → getP (way 3) t2 = some out2 → getP (way 4) t2 = some (.int .i64 ((i + 1 : Nat) : Int)) → Gets (L t2 h2) fun fl t' h' => fl = .exit 0 ∧ ∃ out', getP (way 3) t' = some out' ∧ Gro h' hb.next 1 out' (zs.filter ok).length (i64s (zs.filter ok)) ∧ Fr (fun _ => False) (fun _ => False) hb h' := fun t2 h2 out2 q1 q2 q3 q4 q5 => by
      rw [← hL]
      exact ih (i + 1) k t2 h2 out2 (by omega) (by omega) q1 q2 q3 q4 q5
    by_cases c1 : 0 ≤ z
    · have e3 : ltI z 0 = false := by rw [ltI_eq]; exact decide_eq_false (by omega)
      by_cases c2 : z < 65536
      · have e4 : ltI z 65536 = true := by rw [ltI_eq]; exact decide_eq_true c2
        have hf : (zs.take (i + 1)).filter ok = (zs.take i).filter ok ++ [z] := by
          rw [hts, List.filter_append]; simp [ok, c1, c2]
        have fp : Fr (fun _ => False) (fun _ => False) h (h.push (.cells [.int .i64 z] .fixed)) := .push
        obtain ⟨out2, h3, k1, k2, k3⟩ := (g.keep fp fun _ _ k => k).append (bytes := 8) 1 [.int .i64 z] rfl (by omega) (Nat.le_trans fb.next fp.next)
        have k1' : appendV 8 1 (h.push (.cells [.int .i64 z] .fixed)) out (.slice h.next 0 1 1 (some 1)) = some (out2, h3) := by
          have : rowCells (h.push (.cells [.int .i64 z] .fixed)).get h.next = some [.int .i64 z] := rowCells_push
          have src : srcCells (h.push (.cells [.int .i64 z] .fixed)).get 1 1 (.slice h.next 0 1 1 (some 1)) = some [.int .i64 z] := by
            simp only [srcCells, this]; rfl
          show bO (srcCells (h.push (.cells [.int .i64 z] .fixed)).get 1 1 (.slice h.next 0 1 1 (some 1))) _ = _
          rw [src]; exact k1
        have k2' : Gro h3 hb.next 1 out2 ((zs.take (i + 1)).filter ok).length (i64s ((zs.take (i + 1)).filter ok)) := by
          rw [hf, i64s_append, List.length_append]; exact k2
        have f3 := Fr.new (fb.trans fp) k3 (fun q e => e) (fun q e => e.elim)
        generalize hh2 : h.push (.cells [.int .i64 z] .fixed) = h2 at k1'
        simp [↓ kq, kq, ↓ ko, ko, kb, kv, kt, kx, t0, t3, t4, w.length, e1, e2, e3, e4, x2, x3, hh2, k1', gets_some, -bO_of, -bB_true, -bB_false, -H.next_push, -Int.natCast_add]
        refine again _ h3 out2 k2' f3 ?_ ?_ ?_
        · simp [kq, t0]
        · simp [kq]
        · simp [kq, -Int.natCast_add]
      · have e4 : ltI z 65536 = false := by rw [ltI_eq]; exact decide_eq_false c2
        have hf : (zs.take (i + 1)).filter ok = (zs.take i).filter ok := by
          rw [hts, List.filter_append]; simp [ok, c2]
        simp [↓ kq, kq, ↓ ko, ko, kb, kv, kt, kx, t0, t3, t4, w.length, e1, e2, e3, e4, x2, x3, gets_some, -bO_of, -bB_true, -bB_false, -H.next_push, -Int.natCast_add]
        refine again _ h out (by rw [hf]; exact g) fb ?_ ?_ ?_
        · simp [kq, t0]
        · simp [kq, t3]
        · simp [kq, -Int.natCast_add]
    · have e3 : ltI z 0 = true := by rw [ltI_eq]; exact decide_eq_true (by omega)
      have hf : (zs.take (i + 1)).filter ok = (zs.take i).filter ok := by
        rw [hts, List.filter_append]; simp [ok, c1]
      simp [↓ kq, kq, ↓ ko, ko, kb, kv, kt, kx, t0, t3, t4, w.length, e1, e2, e3, x2, x3, gets_some, -bO_of, -bB_true, -bB_false, -H.next_push, -Int.natCast_add]
      refine again _ h out (by rw [hf]; exact g) fb ?_ ?_ ?_
      · simp [kq, t0]
      · simp [kq, t3]
      · simp [kq, -Int.natCast_add]
theorem Tryd.may {v : SV} {h : H} {zs : List Int} (w : View h 1 v zs.length (i64s zs)) (hl : zs.length < 60000) : ∃ r h', Tryd.lc 7 [v] h = some (r, h') ∧ ListRes h (ni (mayN zs)) r h' := by
  refine Tryd.enG (n := zs.length + 1) (kf := Tryd.k7) (by kernel_rfl) Tryd.k7_eq rfl ?_
  simp [↓ kq, kq, ↓ ko, ko, kb, kv, kt, kx, w.length, -bO_of, -bB_true, -bB_false, -H.next_push, -Int.natCast_add]
  refine gets_next (gets_leave (Gets.mono (Tryd.may_loop (hb := h) w hl zs.length 0 (zs.length + 1) _ h .nilslice (by omega) (by omega) .nil .refl ?_ ?_ ?_) fun fl t' h1 ⟨b1, out, t3, g, fb⟩ => ?_))
  · simp [kq]
  · simp [kq]
  · simp [kq]
  subst b1
  have hfl := List.length_filter_le ok zs
  obtain ⟨r, h2, k1, S, k2, k3, k4, k5, k6⟩ := Tryd.rising g.view (by omega)
  have hS := may_eq k3 k4
  simp [↓ kq, kq, ↓ ko, ko, kb, kv, kt, kx, t3, k1, gets_some, kc, oneS, -bO_of, -bB_true, -bB_false, -H.next_push, -Int.natCast_add]
  have e : i64s S = ni (mayN zs) := by rw [ni_i64s, hS]
  have el : S.length = (ni (mayN zs)).length := by rw [← e, i64s_len]
  rw [e, el] at k2
  exact ⟨k2, fb.trans k5, fun q hq => Nat.le_trans fb.next (k6 q hq)⟩
end
end Go.Proofs
