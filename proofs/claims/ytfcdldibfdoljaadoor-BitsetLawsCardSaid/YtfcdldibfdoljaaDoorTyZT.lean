/- Bitset: the laws of sets. -/
import Derived.Test.YtfcdldibfdoljaaDoorTyZR
import Derived.Test.YtfcdldibfdoljaaDoorSh19
set_option linter.unusedVariables false
set_option linter.unusedSimpArgs false
set_option linter.unusedSectionVars false
namespace Go.Proofs
open Go.Sh
set_option linter.unusedVariables false
attribute [local instance] tabHeld
noncomputable section
def uni (a b : List Nat) : List Nat := trim (zipG (· ||| ·) a b)
def off (a b : List Nat) : List Nat := trim (zipG andNot a b)
def cut (a b : List Nat) : List Nat := trim (zipG (· &&& ·) a b)
theorem mem_uni (a b : List Nat) (k : Nat) : mem (uni a b) k = (mem a k || mem b k) := mem_union a b k
theorem mem_cut (a b : List Nat) (k : Nat) : mem (cut a b) k = (mem a k && mem b k) := mem_both a b k
theorem mem_off (a b : List Nat) (k : Nat) : mem (off a b) k = (mem a k && !mem b k) := mem_take a b k
theorem Neat.uni {a b : List Nat} (ha : Neat a) (hb : Neat b) : Neat (uni a b) := union_neat ha hb
theorem Neat.cut {a b : List Nat} (ha : Neat a) (hb : Neat b) : Neat (cut a b) := both_neat ha hb
theorem Neat.off {a b : List Nat} (ha : Neat a) (hb : Neat b) : Neat (off a b) := take_neat ha hb
section
variable {a b c : List Nat}
theorem law1 (ha : Neat a) (hb : Neat b) : uni a b = uni b a := (neat_ext (ha.uni hb) (hb.uni ha)).2 fun k => by rw [mem_uni, mem_uni, Bool.or_comm]
theorem law2 (ha : Neat a) (hb : Neat b) (hc : Neat c) : uni (uni a b) c = uni a (uni b c) := (neat_ext ((ha.uni hb).uni hc) (ha.uni (hb.uni hc))).2 fun k => by simp only [mem_uni, Bool.or_assoc]
theorem law3 (ha : Neat a) (hb : Neat b) : uni (off a b) (cut a b) = a := (neat_ext ((ha.off hb).uni (ha.cut hb)) ha).2 fun k => by
  rw [mem_uni, mem_off, mem_cut]; cases mem a k <;> cases mem b k <;> rfl
theorem off_nil (ha : Neat a) (hb : Neat b) (h : ∀ k, mem a k = true → mem b k = true) : off a b = [] := (neat_ext (ha.off hb) neat_nil).2 fun k => by
  rw [mem_off, mem_nil]
  cases e : mem a k
  · rfl
  · rw [h k e]; rfl
theorem law4 (ha : Neat a) (hb : Neat b) : off (cut a b) b = [] := off_nil (ha.cut hb) hb fun k h => by
  rw [mem_cut, Bool.and_eq_true] at h; exact h.2
theorem law5 (ha : Neat a) (hb : Neat b) : off a (uni a b) = [] := off_nil ha (ha.uni hb) fun k h => by rw [mem_uni, h]; rfl
theorem law6 (ha : Neat a) (hb : Neat b) : cut (off a b) b = [] := (neat_ext ((ha.off hb).cut hb) neat_nil).2 fun k => by
  rw [mem_cut, mem_off, mem_nil]; cases mem a k <;> cases mem b k <;> rfl
theorem law7 (ha : Neat a) : off (withW a 5) (ofW [5]) = off a (ofW [5]) := (neat_ext ((with_neat ha 5).off (of_neat [5])) (ha.off (of_neat [5]))).2 fun k => by
  rw [mem_off, mem_off, mem_with, mem_of]
  have e : decide ((k : Int) ∈ [(5 : Int)]) = decide ((k : Int) = 5) := by simp
  rw [e]
  cases mem a k <;> cases decide (k < 65536) <;> cases decide ((k : Int) = 5) <;> rfl
theorem law8 (ha : Neat a) : uni [] a = a := (neat_ext (neat_nil.uni ha) ha).2 fun k => by rw [mem_uni, mem_nil, Bool.false_or]
theorem law9 (ha : Neat a) : off [] a = [] := off_nil neat_nil ha fun k h => by rw [mem_nil] at h; cases h
theorem zero_len {l : List Nat} (h : l = []) : eqI (l.length : Int) 0 = true := by rw [h]; rfl
end
theorem eqSV_set {h : H} {v : SV} {ws : List Nat} (s : IsSet h v ws) : eqSV (.agg [v]) (.agg [v]) = true := by
  obtain ⟨_, ⟨rfl, _⟩ | ⟨id, o, cap, all, rfl, _⟩⟩ := s.view
  · rfl
  · cases cap <;> simp [eqSV, eqSL, eqS1]
theorem IsSet.low {h : H} {v : SV} {ws : List Nat} (s : IsSet h v ws) (m : Nat) : IsSet ⟨h.next, m, h.tr⟩ v ws := ⟨s.view, s.words, s.len⟩
theorem IsSet.back {h : H} {v : SV} {ws : List Nat} {m k : Nat} (s : IsSet h v ws) : IsSet ⟨h.next, min k m, h.tr⟩ v ws := ⟨s.view, s.words, s.len⟩
/-- What a strict call makes. -/
def StrictSet (h : H) (m : Nat) (r : Option (SV × H)) (ws : List Nat) : Prop := ∃ v' h', lower m h.low r = some (.agg [v'], h') ∧ IsSet h' v' ws ∧ Fr (fun _ => False) (fun _ => True) h h'
theorem strict_set {h : H} {m : Nat} {r : Option (SV × H)} {ws : List Nat} {v : SV} {h' : H} (hm : m ≤ h.next) (k : r = some (.agg [v], h')) (s : IsSet h' v ws) (f : Fr (fun _ => False) (fun _ => False) ⟨h.next, m, h.tr⟩ h') : StrictSet h m r ws := by
  obtain ⟨e1, e2⟩ := strict_call k f hm
  exact ⟨v, _, e1, s.back, e2⟩
theorem Tryd.unionS {h : H} {va vb : SV} {a b : List Nat} (sa : IsSet h va a) (sb : IsSet h vb b) {m : Nat} (hm : m ≤ h.next) : StrictSet h m (Tryd.lc 15 [.agg [va], .agg [vb]] ⟨h.next, m, h.tr⟩) (uni a b) := by
  obtain ⟨r, h', k, v, rfl, s, f, _⟩ := Tryd.union (sa.low m) (sb.low m)
  exact strict_set hm k s f
theorem Tryd.takeS {h : H} {va vb : SV} {a b : List Nat} (sa : IsSet h va a) (sb : IsSet h vb b) {m : Nat} (hm : m ≤ h.next) : StrictSet h m (Tryd.lc 16 [.agg [va], .agg [vb]] ⟨h.next, m, h.tr⟩) (off a b) := by
  obtain ⟨r, h', k, v, rfl, s, f, _⟩ := Tryd.take (sa.low m) (sb.low m)
  exact strict_set hm k s f
theorem Tryd.withS {h : H} {va : SV} {a : List Nat} (sa : IsSet h va a) (n : Int) {m : Nat} (hm : m ≤ h.next) : StrictSet h m (Tryd.lc 14 [.agg [va], .int .i64 n] ⟨h.next, m, h.tr⟩) (withW a n) := by
  obtain ⟨r, h', k, v, rfl, s, f, _⟩ := Tryd.withN (sa.low m) n
  exact strict_set hm k s f
theorem Tryd.ofS {h : H} {v : SV} {zs : List Int} (w : IntsAt h v zs) (hn : zs.length < 9223372036854775807) {m : Nat} (hm : m ≤ h.next) : StrictSet h m (Tryd.lc 6 [v] ⟨h.next, m, h.tr⟩) (ofW zs) := by
  obtain ⟨r, h', k, v, rfl, s, f, _⟩ := Tryd.of (h := ⟨h.next, m, h.tr⟩) w hn
  exact strict_set hm k s f
theorem Tryd.unionU {h : H} {va vb : SV} {a b : List Nat} (sa : IsSet h va a) (sb : IsSet h vb b) : ∃ r h', Tryd.lc 15 [.agg [va], .agg [vb]] h = some (r, h') ∧ SetRes h (uni a b) r h' := Tryd.union sa sb
theorem Tryd.takeU {h : H} {va vb : SV} {a b : List Nat} (sa : IsSet h va a) (sb : IsSet h vb b) : ∃ r h', Tryd.lc 16 [.agg [va], .agg [vb]] h = some (r, h') ∧ SetRes h (off a b) r h' := Tryd.take sa sb
theorem Tryd.bothU {h : H} {va vb : SV} {a b : List Nat} (sa : IsSet h va a) (sb : IsSet h vb b) : ∃ r h', Tryd.lc 17 [.agg [va], .agg [vb]] h = some (r, h') ∧ SetRes h (cut a b) r h' := Tryd.both sa sb
theorem Tryd.withinU {h : H} {va vb : SV} {a b : List Nat} (sa : IsSet h va a) (sb : IsSet h vb b) : ∃ h', Tryd.lc 18 [.agg [va], .agg [vb]] h = some (.bool (eqI (off a b).length 0), h') ∧ Fr (fun _ => False) (fun _ => False) h h' := Tryd.within sa sb
/-- What stands throughout. -/
structure BL (h : H) (p7 p8 p9 : Nat) (s t u x : SV) (a b c : List Nat) : Prop where
  c7 : h.get p7 = some (.cells [s] .fixed)
  c8 : h.get p8 = some (.cells [t] .fixed)
  c9 : h.get p9 = some (.cells [u] .fixed)
  sS : IsSet h s a
  sT : IsSet h t b
  sU : IsSet h u c
  vx : ListAt h x (nums a)
theorem BL.calm {h h' : H} {p7 p8 p9 : Nat} {s t u x : SV} {a b c : List Nat} {W : Nat → Prop} (b' : BL h p7 p8 p9 s t u x a b c) (f : Fr (fun _ => False) W h h') : BL h' p7 p8 p9 s t u x a b c :=
  ⟨f.get b'.c7 (fun k => k), f.get b'.c8 (fun k => k), f.get b'.c9 (fun k => k), b'.sS.calm f, b'.sT.calm f, b'.sU.calm f, b'.vx.keep f fun _ _ k => k⟩
theorem BL.mix7 {h : H} {p7 p8 p9 : Nat} {s t u x : SV} {a b c : List Nat} (B : BL h p7 p8 p9 s t u x a b c) (y : H) (n : Nat) : loadV (some 1) (mixTo h y n) (.ptr p7 0) = some (.agg [s]) := loadV_agg ((rowCells_mix (H.get_lt B.c7)).trans (rowCells_fixed B.c7))
theorem BL.mix8 {h : H} {p7 p8 p9 : Nat} {s t u x : SV} {a b c : List Nat} (B : BL h p7 p8 p9 s t u x a b c) (y : H) (n : Nat) : loadV (some 1) (mixTo h y n) (.ptr p8 0) = some (.agg [t]) := loadV_agg ((rowCells_mix (H.get_lt B.c8)).trans (rowCells_fixed B.c8))
theorem BL.mix9 {h : H} {p7 p8 p9 : Nat} {s t u x : SV} {a b c : List Nat} (B : BL h p7 p8 p9 s t u x a b c) (y : H) (n : Nat) : loadV (some 1) (mixTo h y n) (.ptr p9 0) = some (.agg [u]) := loadV_agg ((rowCells_mix (H.get_lt B.c9)).trans (rowCells_fixed B.c9))
theorem BL.ld7 {h : H} {p7 p8 p9 : Nat} {s t u x : SV} {a b c : List Nat} (B : BL h p7 p8 p9 s t u x a b c) : loadV (some 1) h.get (.ptr p7 0) = some (.agg [s]) := loadV_agg (rowCells_fixed B.c7)
theorem BL.ld8 {h : H} {p7 p8 p9 : Nat} {s t u x : SV} {a b c : List Nat} (B : BL h p7 p8 p9 s t u x a b c) : loadV (some 1) h.get (.ptr p8 0) = some (.agg [t]) := loadV_agg (rowCells_fixed B.c8)
theorem BL.ld9 {h : H} {p7 p8 p9 : Nat} {s t u x : SV} {a b c : List Nat} (B : BL h p7 p8 p9 s t u x a b c) : loadV (some 1) h.get (.ptr p9 0) = some (.agg [u]) := loadV_agg (rowCells_fixed B.c9)
theorem BL.at7 {h g : H} {p7 p8 p9 : Nat} {s t u x : SV} {a b c : List Nat} (B : BL h p7 p8 p9 s t u x a b c) (hp : p7 < g.next) : loadV (some 1) (getTo h g.next) (.ptr p7 0) = some (.agg [s]) := loadV_agg ((rowCells_to hp).trans (rowCells_fixed B.c7))
/-- Where the first line ends. -/
def LawMid (g0 : H) (p7 p8 p9 : Nat) (s u' u x : SV) (a b c : List Nat) (t t' : T) (h' : H) : Prop := t' = setP (way 12) (.bool true) t ∧ BL h' p7 p8 p9 s u' u x a b c ∧ g0.next ≤ h'.next
set_option maxRecDepth 20000 in
set_option maxHeartbeats 4000000 in
theorem Tryd.laws_mid {g0 : H} {p7 p8 p9 : Nat} {s r u x : SV} {a b c : List Nat} (ha : Neat a) (hb : Neat b) (hc : Neat c) (P7 : p7 < g0.next) (B0 : BL g0 p7 p8 p9 s r u x a b c) {t : T} (k : Nat)
    (t7 : getP (way 7) t = some (.ptr p7 0)) (t8 : getP (way 8) t = some (.ptr p8 0)) (t9 : getP (way 9) t = some (.ptr p9 0)) (t11 : getP (way 11) t = some (.func 15 [])) :
    Gets ((cOps (oLet (sV ((xW 11))) fun v36 => oLet (sL (lLoad (some 1) (xW 7))) fun v37 => oLet (sL (lLoad (some 1) (xW 8))) fun v38 => oCap fun c3 => oLet (sX (xC v36) [(xC v37), (xC v38)]) fun v39 => oCap fun d3 => oLet (sLo [c3] d3.next (lLoad (some 1) (xW 8))) fun v41 => oLet (sLo [c3] d3.next (lLoad (some 1) (xW 7))) fun v42 => oCap fun c7 => oLet (sX (xC v36) [(xC v41), (xC v42)]) fun v43 => oCap fun d7 => oCap fun c8 => oLet (sC 19 [(xC v39), (xC v43)]) fun v44 => oCap fun d8 => oLet (sG (xC v44) true (sV ((xC v36)))) fun v46 => oLet (sG (xC v44) true (sV ((xC v36)))) fun v47 => oLet (sG (xC v44) true (sL (lLoad (some 1) (xW 7)))) fun v48 => oLet (sG (xC v44) true (sL (lLoad (some 1) (xW 8)))) fun v49 => oCap fun c14 => oLet (sG (xC v44) true (sXs (xC v47) [(xC v48), (xC v49)])) fun v50 => oCap fun d14 => oLet (sG (xC v44) true (sLo [c14] d14.next (lLoad (some 1) (xW 9)))) fun v51 => oCap fun c16 => oLet (sG (xC v44) true (sXs (xC v46) [(xC v50), (xC v51)])) fun v52 => oCap fun d16 => oLet (sG (xC v44) true (sV ((xC v36)))) fun v53 => oLet (sG (xC v44) true (sLs (lLoad (some 1) (xW 7)))) fun v54 => oLet (sG (xC v44) true (sV ((xC v36)))) fun v55 => oLet (sG (xC v44) true (sLo [c16, c14] d16.next (lLoad (some 1) (xW 8)))) fun v56 => oLet (sG (xC v44) true (sLo [c16, c14] d16.next (lLoad (some 1) (xW 9)))) fun v57 => oCap fun c22 => oLet (sG (xC v44) true (sXs (xC v55) [(xC v56), (xC v57)])) fun v58 => oCap fun d22 => oCap fun c23 => oLet (sG (xC v44) true (sX (xC v53) [(xC v54), (xC v58)])) fun v59 => oCap fun d23 => oCap fun c24 => oLet (sG (xC v44) true (sC 19 [(xC v52), (xC v59)])) fun v60 => oCap fun d24 => oLet (sV (vPick (xC v44) (xC v60) (xC (.bool false)))) fun v61 => oLet (sG (xC v61) true (sL (lLoad (some 1) (xW 7)))) fun v63 => oLet (sG (xC v61) true (sL (lLoad (some 1) (xW 8)))) fun v64 => oCap fun c29 => oLet (sG (xC v61) true (sC 16 [(xC v63), (xC v64)])) fun v65 => oCap fun d29 => oLet (sG (xC v61) true (sLo [c29] d29.next (lLoad (some 1) (xW 7)))) fun v66 => oLet (sG (xC v61) true (sLo [c29] d29.next (lLoad (some 1) (xW 8)))) fun v67 => oCap fun c32 => oLet (sG (xC v61) true (sC 17 [(xC v66), (xC v67)])) fun v68 => oCap fun d32 => oCap fun c33 => oLet (sG (xC v61) true (sC 15 [(xC v65), (xC v68)])) fun v69 => oCap fun d33 => oLet (sG (xC v61) true (sLo [c33, c32, c29] d33.next (lLoad (some 1) (xW 7)))) fun v70 => oCap fun c35 => oLet (sG (xC v61) true (sC 19 [(xC v69), (xC v70)])) fun v71 => oCap fun d35 => oLet (sV (vPick (xC v61) (xC v71) (xC (.bool false)))) fun v72 => oLet (sG (xC v72) true (sL (lLoad (some 1) (xW 7)))) fun v74 => oLet (sG (xC v72) true (sL (lLoad (some 1) (xW 8)))) fun v75 => oCap fun c40 => oLet (sG (xC v72) true (sC 17 [(xC v74), (xC v75)])) fun v76 => oCap fun d40 => oLet (sG (xC v72) true (sLo [c40] d40.next (lLoad (some 1) (xW 8)))) fun v77 => oCap fun c42 => oLet (sG (xC v72) true (sC 18 [(xC v76), (xC v77)])) fun v78 => oCap fun d42 => oLet (sV (vPick (xC v72) (xC v78) (xC (.bool false)))) fun v79 => oLet (sG (xC v79) true (sLs (lLoad (some 1) (xW 7)))) fun v81 => oLet (sG (xC v79) true (sV ((xC v36)))) fun v82 => oLet (sG (xC v79) true (sL (lLoad (some 1) (xW 7)))) fun v83 => oLet (sG (xC v79) true (sL (lLoad (some 1) (xW 8)))) fun v84 => oCap fun c49 => oLet (sG (xC v79) true (sXs (xC v82) [(xC v83), (xC v84)])) fun v85 => oCap fun d49 => oCap fun c50 => oLet (sG (xC v79) true (sC 18 [(xC v81), (xC v85)])) fun v86 => oCap fun d50 => oLet (sV (vPick (xC v79) (xC v86) (xC (.bool false)))) fun v87 => oLet (sG (xC v87) true (sL (lLoad (some 1) (xW 7)))) fun v89 => oLet (sG (xC v87) true (sL (lLoad (some 1) (xW 8)))) fun v90 => oCap fun c55 => oLet (sG (xC v87) true (sC 16 [(xC v89), (xC v90)])) fun v91 => oCap fun d55 => oLet (sG (xC v87) true (sLo [c55] d55.next (lLoad (some 1) (xW 8)))) fun v92 => oCap fun c57 => oLet (sG (xC v87) true (sC 17 [(xC v91), (xC v92)])) fun v93 => oCap fun d57 => oCap fun c58 => oLet (sG (xC v87) true (sC 12 [(xC v93)])) fun v94 => oCap fun d58 => oLet (sV (vPick (xC v87) (xC v94) (xC (.bool false)))) fun v95 => oLet (sG (xC v95) true (sL (lLoad (some 1) (xW 7)))) fun v97 => oCap fun c62 => oLet (sG (xC v95) true (sCs 14 [(xC v97), (xC (.int .i64 5))])) fun v98 => oCap fun d62 => oLet (sG (xC v95) true (sN (aRow 1 1 [1] [(xC (.int .i64 5))]))) fun v99 => oCap fun c64 => oLet (sG (xC v95) true (sCs 6 [(xC v99)])) fun v100 => oCap fun d64 => oCap fun c65 => oLet (sG (xC v95) true (sCs 16 [(xC v98), (xC v100)])) fun v101 => oCap fun d65 => oLet (sG (xC v95) true (sLs (lLoad (some 1) (xW 7)))) fun v102 => oLet (sG (xC v95) true (sN (aRow 1 1 [1] [(xC (.int .i64 5))]))) fun v103 => oCap fun c68 => oLet (sG (xC v95) true (sCs 6 [(xC v103)])) fun v104 => oCap fun d68 => oCap fun c69 => oLet (sG (xC v95) true (sC 16 [(xC v102), (xC v104)])) fun v105 => oCap fun d69 => oCap fun c70 => oLet (sG (xC v95) true (sC 19 [(xC v101), (xC v105)])) fun v106 => oCap fun d70 => oLet (sV (vPick (xC v95) (xC v106) (xC (.bool false)))) fun v107 => oSet 12 (sV ((xC v107))) fun v12 => oEnd)) k Tryd.lc t g0) fun fl t' h' => fl = .normal ∧ LawMid g0 p7 p8 p9 s r u x a b c t t' h' := by
  have eqs := eqSV_set B0.sS
  have eqt := eqSV_set B0.sT
  have equ := eqSV_set B0.sU
  have N0 : g0.next ≤ g0.next := Nat.le_refl _
  have l7_0 := B0.ld7
  have l8_0 := B0.ld8
  obtain ⟨_, g1, k1, vx1, rfl, x1_1, f1, _⟩ := Tryd.unionU B0.sS B0.sT
  have B1 := B0.calm f1
  have N1 : g0.next ≤ g1.next := Nat.le_trans N0 f1.next
  have l7_1 := B1.ld7
  have l8_1 := B1.ld8
  have m8_0 := B0.mix8
  have m7_0 := B0.mix7
  obtain ⟨_, g2, k2, vx2, rfl, x2_2, f2, _⟩ := Tryd.unionU B1.sT B1.sS
  have B2 := B1.calm f2
  have x1_2 := x1_1.calm f2
  have N2 : g0.next ≤ g2.next := Nat.le_trans N1 f2.next
  obtain ⟨g3, k3, f3⟩ := Tryd.same x1_2 x2_2
  rw [decide_eq_true (law1 ha hb)] at k3
  have B3 := B2.calm f3
  have x1_3 := x1_2.calm f3
  have x2_3 := x2_2.calm f3
  have N3 : g0.next ≤ g3.next := Nat.le_trans N2 f3.next
  have l7_3 := B3.ld7
  have l8_3 := B3.ld8
  obtain ⟨vx3, g4, k4, x3_4, f4⟩ := Tryd.unionS B3.sS B3.sT (m := g0.next) N3
  have B4 := B3.calm f4
  have N4 : g0.next ≤ g4.next := Nat.le_trans N3 f4.next
  have l9_4 := B4.ld9
  have m9_3 := B3.mix9
  obtain ⟨vx4, g5, k5, x4_5, f5⟩ := Tryd.unionS x3_4 B4.sU (m := g0.next) N4
  have B5 := B4.calm f5
  have x3_5 := x3_4.calm f5
  have N5 : g0.next ≤ g5.next := Nat.le_trans N4 f5.next
  have a7_5 := B5.at7 (g := g0) P7
  have l8_5 := B5.ld8
  have l9_5 := B5.ld9
  have m8_4 := B4.mix8
  have m8_3 := B3.mix8
  have m9_4 := B4.mix9
  have m9_3 := B3.mix9
  obtain ⟨vx5, g6, k6, x5_6, f6⟩ := Tryd.unionS B5.sT B5.sU (m := g0.next) N5
  have B6 := B5.calm f6
  have x4_6 := x4_5.calm f6
  have N6 : g0.next ≤ g6.next := Nat.le_trans N5 f6.next
  obtain ⟨_, g7, k7, vx6, rfl, x6_7, f7, _⟩ := Tryd.unionU B6.sS x5_6
  have B7 := B6.calm f7
  have x4_7 := x4_6.calm f7
  have x5_7 := x5_6.calm f7
  have N7 : g0.next ≤ g7.next := Nat.le_trans N6 f7.next
  obtain ⟨g8, k8, f8⟩ := Tryd.same x4_7 x6_7
  rw [decide_eq_true (law2 ha hb hc)] at k8
  have B8 := B7.calm f8
  have x4_8 := x4_7.calm f8
  have x5_8 := x5_7.calm f8
  have x6_8 := x6_7.calm f8
  have N8 : g0.next ≤ g8.next := Nat.le_trans N7 f8.next
  have l7_8 := B8.ld7
  have l8_8 := B8.ld8
  obtain ⟨_, g9, k9, vx7, rfl, x7_9, f9, _⟩ := Tryd.takeU B8.sS B8.sT
  have B9 := B8.calm f9
  have N9 : g0.next ≤ g9.next := Nat.le_trans N8 f9.next
  have l7_9 := B9.ld7
  have l8_9 := B9.ld8
  have m7_8 := B8.mix7
  have m8_8 := B8.mix8
  obtain ⟨_, g10, k10, vx8, rfl, x8_10, f10, _⟩ := Tryd.bothU B9.sS B9.sT
  have B10 := B9.calm f10
  have x7_10 := x7_9.calm f10
  have N10 : g0.next ≤ g10.next := Nat.le_trans N9 f10.next
  obtain ⟨_, g11, k11, vx9, rfl, x9_11, f11, _⟩ := Tryd.unionU x7_10 x8_10
  have B11 := B10.calm f11
  have x7_11 := x7_10.calm f11
  have x8_11 := x8_10.calm f11
  have N11 : g0.next ≤ g11.next := Nat.le_trans N10 f11.next
  have l7_11 := B11.ld7
  have m7_10 := B10.mix7
  have m7_9 := B9.mix7
  have m7_8 := B8.mix7
  obtain ⟨g12, k12, f12⟩ := Tryd.same x9_11 B11.sS
  rw [decide_eq_true (law3 ha hb)] at k12
  have B12 := B11.calm f12
  have x7_12 := x7_11.calm f12
  have x8_12 := x8_11.calm f12
  have x9_12 := x9_11.calm f12
  have N12 : g0.next ≤ g12.next := Nat.le_trans N11 f12.next
  have l7_12 := B12.ld7
  have l8_12 := B12.ld8
  obtain ⟨_, g13, k13, vx10, rfl, x10_13, f13, _⟩ := Tryd.bothU B12.sS B12.sT
  have B13 := B12.calm f13
  have N13 : g0.next ≤ g13.next := Nat.le_trans N12 f13.next
  have l8_13 := B13.ld8
  have m8_12 := B12.mix8
  obtain ⟨g14, k14, f14⟩ := Tryd.withinU x10_13 B13.sT
  rw [zero_len (law4 ha hb)] at k14
  have B14 := B13.calm f14
  have x10_14 := x10_13.calm f14
  have N14 : g0.next ≤ g14.next := Nat.le_trans N13 f14.next
  have a7_14 := B14.at7 (g := g0) P7
  have l7_14 := B14.ld7
  have l8_14 := B14.ld8
  obtain ⟨vx11, g15, k15, x11_15, f15⟩ := Tryd.unionS B14.sS B14.sT (m := g0.next) N14
  have B15 := B14.calm f15
  have N15 : g0.next ≤ g15.next := Nat.le_trans N14 f15.next
  obtain ⟨g16, k16, f16⟩ := Tryd.withinU B15.sS x11_15
  rw [zero_len (law5 ha hb)] at k16
  have B16 := B15.calm f16
  have x11_16 := x11_15.calm f16
  have N16 : g0.next ≤ g16.next := Nat.le_trans N15 f16.next
  have l7_16 := B16.ld7
  have l8_16 := B16.ld8
  obtain ⟨_, g17, k17, vx12, rfl, x12_17, f17, _⟩ := Tryd.takeU B16.sS B16.sT
  have B17 := B16.calm f17
  have N17 : g0.next ≤ g17.next := Nat.le_trans N16 f17.next
  have l8_17 := B17.ld8
  have m8_16 := B16.mix8
  obtain ⟨_, g18, k18, vx13, rfl, x13_18, f18, _⟩ := Tryd.bothU x12_17 B17.sT
  have B18 := B17.calm f18
  have x12_18 := x12_17.calm f18
  have N18 : g0.next ≤ g18.next := Nat.le_trans N17 f18.next
  obtain ⟨g19, k19, f19⟩ := Tryd.empty x13_18
  rw [zero_len (law6 ha hb)] at k19
  have B19 := B18.calm f19
  have x12_19 := x12_18.calm f19
  have x13_19 := x13_18.calm f19
  have N19 : g0.next ≤ g19.next := Nat.le_trans N18 f19.next
  have l7_19 := B19.ld7
  obtain ⟨vx14, g20, k20, x14_20, f20⟩ := Tryd.withS B19.sS 5 (m := g0.next) N19
  have B20 := B19.calm f20
  have N20 : g0.next ≤ g20.next := Nat.le_trans N19 f20.next
  generalize hp21 : g20.push (.cells [.int .i64 5] .fixed) = g21
  have f21 : Fr (fun _ => False) (fun _ => False) g20 g21 := by rw [← hp21]; exact .push
  have w21 : IntsAt g21 (.slice g20.next 0 1 1 (some 1)) [5] := by rw [← hp21]; exact view_row rowCells_push rfl
  have B21 := B20.calm f21
  have x14_21 := x14_20.calm f21
  have N21 : g0.next ≤ g21.next := Nat.le_trans N20 f21.next
  obtain ⟨vx15, g22, k22, x15_22, f22⟩ := Tryd.ofS w21 (by decide) (m := g0.next) N21
  have B22 := B21.calm f22
  have x14_22 := x14_21.calm f22
  have N22 : g0.next ≤ g22.next := Nat.le_trans N21 f22.next
  obtain ⟨vx16, g23, k23, x16_23, f23⟩ := Tryd.takeS x14_22 x15_22 (m := g0.next) N22
  have B23 := B22.calm f23
  have x14_23 := x14_22.calm f23
  have x15_23 := x15_22.calm f23
  have N23 : g0.next ≤ g23.next := Nat.le_trans N22 f23.next
  have a7_23 := B23.at7 (g := g0) P7
  generalize hp24 : g23.push (.cells [.int .i64 5] .fixed) = g24
  have f24 : Fr (fun _ => False) (fun _ => False) g23 g24 := by rw [← hp24]; exact .push
  have w24 : IntsAt g24 (.slice g23.next 0 1 1 (some 1)) [5] := by rw [← hp24]; exact view_row rowCells_push rfl
  have B24 := B23.calm f24
  have x16_24 := x16_23.calm f24
  have N24 : g0.next ≤ g24.next := Nat.le_trans N23 f24.next
  obtain ⟨vx17, g25, k25, x17_25, f25⟩ := Tryd.ofS w24 (by decide) (m := g0.next) N24
  have B25 := B24.calm f25
  have x16_25 := x16_24.calm f25
  have N25 : g0.next ≤ g25.next := Nat.le_trans N24 f25.next
  obtain ⟨_, g26, k26, vx18, rfl, x18_26, f26, _⟩ := Tryd.takeU B25.sS x17_25
  have B26 := B25.calm f26
  have x16_26 := x16_25.calm f26
  have x17_26 := x17_25.calm f26
  have N26 : g0.next ≤ g26.next := Nat.le_trans N25 f26.next
  obtain ⟨g27, k27, f27⟩ := Tryd.same x16_26 x18_26
  rw [decide_eq_true (law7 ha)] at k27
  have B27 := B26.calm f27
  have x16_27 := x16_26.calm f27
  have x17_27 := x17_26.calm f27
  have x18_27 := x18_26.calm f27
  have N27 : g0.next ≤ g27.next := Nat.le_trans N26 f27.next
  have fin : ∀ t', t' = setP (way 12) (.bool true) t → LawMid g0 p7 p8 p9 s r u x a b c t t' g27 := fun t' e => ⟨e, B27, N27⟩
  generalize hE : LawMid g0 p7 p8 p9 s r u x a b c t = E at fin
  clear hE
  clear B0 B1 B2 B3 B4 B5 B6 B7 B8 B9 B10 B11 B12 B13 B14 B15 B16 B17 B18 B19 B20 B21 B22 B23 B24 B25 B26 B27
  simp [↓ kq, kq, ↓ ko, ko, ↓ kt, ↓ kz, kb, kv, kt, kx, t7, t8, t9, t11, eqs, eqt, equ, l7_0, l8_0, k1, l7_1, l8_1, m8_0, m7_0, k2, k3, l7_3, l8_3, k4, l9_4, m9_3, k5, a7_5, l8_5, l9_5, m8_4, m8_3, m9_4, k6, k7, k8, l7_8, l8_8, k9, l7_9, l8_9, m7_8, m8_8, k10, k11, l7_11, m7_10, m7_9, k12, l7_12, l8_12, k13, l8_13, m8_12, k14, a7_14, l7_14, l8_14, k15, k16, l7_16, l8_16, k17, l8_17, m8_16, k18, k19, l7_19, k20, hp21, k22, k23, a7_23, hp24, k25, k26, k27, gets_some, -bO_of, -bB_true, -bB_false, -H.next_push, -Int.natCast_add]
  exact fin _ rfl
end
end Go.Proofs
