/- Bytes: what is written, whole. -/
import Derived.Test.YtfcdldibfdoljaaTyQ
import Derived.Test.YtfcdldibfdoljaaSh15
import Derived.Test.YtfcdldibfdoljaaSh16
set_option linter.unusedVariables false
set_option linter.unusedSimpArgs false
set_option linter.unusedSectionVars false
namespace Go.Proofs
open Go.Sh
set_option linter.unusedVariables false
attribute [local instance] heldNone
noncomputable section
theorem Try.enG {f : FuncId} {kf : KF} (hk : Try.kTab.get f = some kf) {n : Nat} {args : List SV} {h : H} {Q : SV → H → Prop} {sl : List Pth} {b : Cd} {rs : List RF} (he : kf = ⟨sl, b, rs⟩) {t : T} (ha : argsP sl args .leaf = some t)
    (g : Gets (b n Try.lc t h) fun fl t h => (fl = .normal ∨ fl = .ret) ∧ ∃ vs, kresL t h rs = some vs ∧ Q (oneS vs) h) (hX : Try.X f = none := by rfl) : ∃ v h', Try.lc f args h = some (v, h') ∧ Q v h' := by
  obtain ⟨v, h', k1, k2⟩ := gets_fin g
  refine ⟨v, h', Try.en hk (n := n) ?_ hX, k2⟩
  rw [he, enter_eq, ha]
  exact k1
theorem alloc_eq (cs : List SV) (c : CF) (m : Nat) (t : T) (h : H) (K : SV → H → FR) : sN (aAlloc cs) c m t h K = K (.ptr h.next 0) (h.push (.cells cs .fixed)) := rfl
theorem sLs_eq (f : LF) (c : CF) (m : Nat) (t : T) (h : H) (k : SV → H → FR) : sLs f c m t h k = bO (f (getTo h m) t) fun v => k v h := rfl
theorem Try.writes {h : H} {items : SV} {its : List It} (w : View h 3 items its.length (itCells its)) (hold : ∀ q, isRow items q → q < h.next) : ∃ v h', Try.lc 3 [items] h = some (v, h') ∧ v = .bool true := by
  obtain ⟨r, h1, k1, f1, hr⟩ := Try.small w
  refine Try.enG (n := its.length + 1) (kf := Try.k3) (by kernel_rfl) Try.k3_eq rfl ?_
  cases r
  · simp [kr, bO_mk, kx, k1, vUn, unS, Try.awake, gets_some, kresL, kres, oneS]
  have ht := hr rfl
  have hln := total_length its
  have f2 : Fr (fun _ => False) (fun _ => False) h1 (h1.push (.cells [.nilslice, .bool false] .fixed)) := .push
  have hg : (h1.push (.cells [.nilslice, .bool false] .fixed)).get h1.next = some (.cells [.nilslice, .bool false] .fixed) := by rw [H.get_push, if_pos rfl]
  have hw : Wr (h1.push (.cells [.nilslice, .bool false] .fixed)) h1.next false 0 [] := ⟨.nilslice, hg, ⟨rfl, .inl ⟨rfl, rfl⟩⟩, fun q hq => hq.elim⟩
  have a : WrAt h1.next h1.next items its 0 (h1.push (.cells [.nilslice, .bool false] .fixed)) .nilslice true 0 0 [] [] :=
    ⟨(w.keep f1 fun _ _ k => k).keep f2 fun _ _ k => k, fun q hq => Nat.lt_of_lt_of_le (hold q hq) f1.next, hw, ⟨rfl, .inl ⟨rfl, rfl⟩⟩, fun _ => ⟨rfl, rfl⟩, fun q hq => by
      rcases hq with rfl | ⟨b, c, e1, e2⟩
      · exact Nat.le_refl _
      · rw [hg] at e1; cases e1; exact e2.elim, fun q hq => hq.elim, fun q hq => hq.elim, Nat.zero_le _, Nat.zero_le _, Nat.le_succ _⟩
  simp [kr, bO_mk, kx, k1, vUn, unS, alloc_eq]
  refine gets_next (gets_leave (Gets.mono (Try.writes_loop ht (by omega) its.length 0 (its.length + 1) _ _ _ _ _ _ _ _ (by omega) (by omega) a ?_ ?_ ?_ ?_ ?_ ?_) fun fl t' h2 ⟨b1, want, all, n, nw, cs, zs, a2, t3, t4, t5, t6⟩ => ?_))
  · simp [kr]
  · simp [kr]
  · simp [kr]
  · simp [kr]
  · simp [kr]
  · simp [kr]
  subst b1
  have hn := a2.le
  have hnw := a2.lew
  rw [List.take_length] at hn hnw
  cases all
  · obtain ⟨v', h3, q1, q2, q3, _⟩ := Try.bytes a2.wr (by omega)
    have q2 : View h3 1 v' 0 (u8z []) := q2
    have s1 := View.str q2
    have s2 : ∀ g, strOf g .nilslice = some (.str []) := fun _ => rfl
    simp [kq, ko, bO_mk, kx, t3, t4, t5, t6, vUn, unS, q1, lToStr, s1, s2, bytesZ, eqS1_str, vSEq, eqB_self, Try.bytes_nil, vLen, lenV, vEq, i2, eqI_eq, vPick, Try.bad_nil, Try.awake, gets_some, kresL, kres, oneS]
  · obtain ⟨v', h3, q1, q2, q3, _⟩ := Try.bytes a2.wr (by omega)
    obtain ⟨e1, e2⟩ := a2.same rfl
    have q2 : View h3 1 v' n (u8z zs) := by
      have : View h3 1 v' n cs := q2
      rw [e2] at this; exact this
    have s1 := View.str q2
    have b2 := (a2.buf.keep q3 fun _ _ k => k).view
    have s2 := View.str b2
    have s3 : strOf (mixTo h2 h3 h3.next) want = some (.str (bytesZ zs)) := View.strG a2.buf.view fun q hq => rowCells_mix (Buf.lt a2.buf q hq)
    simp [kq, ko, bO_mk, kx, t3, t4, t5, t6, vUn, unS, q1, lToStr, s1, s2, s3, eqS1_str, vSEq, eqB_self, Try.bytes_nil, vLen, lenV, vEq, i2, eqI_eq, vPick, Try.bad_nil, Try.awake, gets_some, kresL, kres, oneS]
end
end Go.Proofs
