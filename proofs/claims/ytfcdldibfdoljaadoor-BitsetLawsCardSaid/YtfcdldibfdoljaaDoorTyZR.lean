/- Bitset: BitsetAsks answers true. -/
import Derived.Test.YtfcdldibfdoljaaDoorTyZQ
set_option linter.unusedVariables false
set_option linter.unusedSimpArgs false
set_option linter.unusedSectionVars false
namespace Go.Proofs
open Go.Sh
set_option linter.unusedVariables false
attribute [local instance] tabHeld
noncomputable section
theorem ptAt_nil {hb : H} {ys : List Nat} : PtAt hb hb .nilslice .nilslice [] ys := ⟨⟨rfl, .inl ⟨rfl, rfl⟩⟩, ⟨rfl, .inl ⟨rfl, rfl⟩⟩, fun q hq => hq.elim, fun q hq => hq.elim, fun q hq => hq.elim, .refl⟩
theorem Tryd.asks {h : H} {A B : SV} {aa bb : List Int} {n : Int} (wA : IntsAt h A aa) (wB : IntsAt h B bb) (hn : n < 9223372036854775808) (la' : aa.length < 9223372036854775808) (lb' : bb.length < 9223372036854775808) : ∃ v h', Tryd.lc 3 [A, B, .int .i64 n] h = some (v, h') ∧ v = .bool true := by
  have lA := wA.length
  have lB := wB.length
  have aw := Tryd.awake h
  by_cases la : 200 < aa.length
  · have e1 : ltI 200 (aa.length : Int) = true := by rw [ltI_eq]; exact decide_eq_true (by omega)
    refine Tryd.enG (n := 1) (kf := Tryd.k3) (by kernel_rfl) Tryd.k3_eq rfl ?_
    simp [↓ kq, kq, ↓ ko, ko, ↓ kt, kb, kv, kt, kx, lA, e1, aw, kc, oneS, gets_some, -bO_of, -bB_true, -bB_false, -H.next_push, -Int.natCast_add]
  have e1 : ltI 200 (aa.length : Int) = false := by rw [ltI_eq]; exact decide_eq_false (by omega)
  by_cases lb : 200 < bb.length
  · have e2 : ltI 200 (bb.length : Int) = true := by rw [ltI_eq]; exact decide_eq_true (by omega)
    refine Tryd.enG (n := 1) (kf := Tryd.k3) (by kernel_rfl) Tryd.k3_eq rfl ?_
    simp [↓ kq, kq, ↓ ko, ko, ↓ kt, kb, kv, kt, kx, lA, lB, e1, e2, aw, kc, oneS, gets_some, -bO_of, -bB_true, -bB_false, -H.next_push, -Int.natCast_add]
  have e2 : ltI 200 (bb.length : Int) = false := by rw [ltI_eq]; exact decide_eq_false (by omega)
  obtain ⟨r1, g1, k1, s, rfl, s1, f1, _⟩ := Tryd.of wA (by omega)
  have wB1 : IntsAt g1 B bb := wB.keep f1 fun _ _ k => k
  obtain ⟨r2, g2, k2, u, rfl, s2, f2, _⟩ := Tryd.of wB1 (by omega)
  generalize hh3 : g2.push (.cells [.nilslice] .fixed) = g3
  have f3 : Fr (fun _ => False) (fun _ => False) g2 g3 := by rw [← hh3]; exact .push
  generalize hh4 : g3.push (.cells [.nilslice] .fixed) = g4
  have f4 : Fr (fun _ => False) (fun _ => False) g3 g4 := by rw [← hh4]; exact .push
  have n3 : g3.next = g2.next + 1 := by rw [← hh3]; rfl
  have n4 : g4.next = g3.next + 1 := by rw [← hh4]; rfl
  have c7 : g4.get g2.next = some (.cells [.nilslice] .fixed) := f4.get (by rw [← hh3, H.get_push, if_pos rfl]) (fun k => k)
  have c8 : g4.get g3.next = some (.cells [.nilslice] .fixed) := by rw [← hh4, H.get_push, if_pos rfl]
  have st7 := storeV_agg (b := s) c7
  generalize hh5 : g4.put g2.next (.cells [s] .fixed) = g5 at st7
  have f5 : Fr (· = g2.next) (· = g2.next) g4 g5 := by rw [← hh5]; exact Fr.put (H.get_lt c7)
  have c7' : g5.get g2.next = some (.cells [s] .fixed) := by rw [← hh5]; exact get_put_self c7
  have c8' := f5.get c8 (by show ¬ g3.next = g2.next; omega)
  have st8 := storeV_agg (b := u) c8'
  generalize hh6 : g5.put g3.next (.cells [u] .fixed) = g6 at st8
  have f6 : Fr (· = g3.next) (· = g3.next) g5 g6 := by rw [← hh6]; exact Fr.put (H.get_lt c8')
  have c7'' := f6.get c7' (by show ¬ g2.next = g3.next; omega)
  have c8'' : g6.get g3.next = some (.cells [u] .fixed) := by rw [← hh6]; exact get_put_self c8'
  have old : ∀ q, q < g2.next → g6.get q = g2.get q := fun q hq => by
    have h3 := f3.keep q hq (fun k => k)
    have h4 := f4.keep q (by omega) (fun k => k)
    have h5 := f5.keep q (by omega) (by show ¬ q = g2.next; omega)
    have h6 := f6.keep q (by have := f5.next; omega) (by show ¬ q = g3.next; omega)
    rw [h6, h5, h4, h3]
  have F : Fr (fun q => q = g2.next ∨ q = g3.next) (fun q => q = g2.next ∨ q = g3.next) g2 g6 :=
    (((f3.trans f4).mono (fun _ _ k => k.elim) fun _ k => k.elim).trans (f5.mono (fun _ _ k => .inl k) fun _ k => .inl (.inl k))).trans (f6.mono (fun _ _ k => .inr k) fun _ k => .inl (.inr k))
  have F' : Fr (fun _ => False) (fun _ => False) g2 g6 := ⟨F.next, fun q hq _ => F.keep q hq (by rintro (k | k) <;> omega), fun m h1 h2 _ => F.low m h1 h2 (by rintro q (k | k) <;> omega)⟩
  have S1 : IsSet g6 s (ofW aa) := (s1.calm f2).calm F'
  have S2 : IsSet g6 u (ofW bb) := s2.calm F'
  have wA6 : IntsAt g6 A aa := wA.keep ((f1.trans f2).trans F') fun _ _ k => k
  have wB6 : IntsAt g6 B bb := wB1.keep (f2.trans F') fun _ _ k => k
  obtain ⟨x, g7, k7, R7⟩ := Tryd.may wA6 (by omega)
  have f7 := R7.2.1
  have wB7 : IntsAt g7 B bb := wB6.keep f7 fun _ _ k => k
  obtain ⟨y, g8, k8, R8⟩ := Tryd.may wB7 (by omega)
  have f8 := R8.2.1
  have vx : ListAt g8 x (mayN aa) := View.keep R7.at f8 fun _ _ k => k
  have vy : ListAt g8 y (mayN bb) := R8.at
  refine Tryd.enG (n := (mayN aa).length + 1) (kf := Tryd.k3) (by kernel_rfl) Tryd.k3_eq rfl ?_
  simp [↓ kq, kq, ↓ ko, ko, ↓ kt, kb, kv, kt, kx, lA, lB, e1, e2, k1, k2, hh3, hh4, st7, st8, k7, k8, -bO_of, -bB_true, -bB_false, -H.next_push, -Int.natCast_add]
  refine gets_next (gets_leave (Gets.mono (Tryd.part_loop (hb := g8) vx vy (mayN_len aa) (mayN_len bb) (mayN aa).length 0 ((mayN aa).length + 1) _ g8 .nilslice .nilslice (by omega) (by omega) ptAt_nil ?_ ?_ ?_ ?_ ?_ ?_) fun fl t' h9 ⟨b1, ⟨q0, q1, q2, q7, q8, q9, q10⟩, q13, mi, an, q11, q12, p⟩ => ?_))
  · simp [kq]
  · simp [kq]
  · simp [kq]
  · simp [kq]
  · simp [kq, outOf]
  · simp [kq]
  subst b1
  have B0 : BA h9 g2.next g3.next A B s u x y mi an aa bb := ⟨p.fr.get (f8.get (f7.get c7'' (fun k => k)) (fun k => k)) (fun k => k), p.fr.get (f8.get (f7.get c8'' (fun k => k)) (fun k => k)) (fun k => k), ((S1.calm f7).calm f8).calm p.fr, ((S2.calm f7).calm f8).calm p.fr, ((wA6.keep f7 fun _ _ k => k).keep f8 fun _ _ k => k).keep p.fr fun _ _ k => k, (wB7.keep f8 fun _ _ k => k).keep p.fr fun _ _ k => k, vx.keep p.fr fun _ _ k => k, vy.keep p.fr fun _ _ k => k, p.bm.view', p.ba.view'⟩
  have tl := Tryd.asks_tail (t := t') hn (by omega) (by omega) B0 ((mayN aa).length + 1) (by rw [q0]; simp [kq]) (by rw [q1]; simp [kq]) (by rw [q2]; simp [kq]) (by rw [q7]; simp [kq]) (by rw [q8]; simp [kq]) (by rw [q9]; simp [kq]) (by rw [q10]; simp [kq]) q11 q12 q13
  simp only [↓reduceIte]
  refine Gets.mono tl fun fl t' h' ⟨b1, b2⟩ => ⟨.inr b1, _, by rw [kc.2.2.2, kc.2.1, b2, kc.2.2.1]; rfl, rfl⟩
end
end Go.Proofs
