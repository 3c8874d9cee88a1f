/- General laws of the proof: a shadow machine of the form, its soundness, and a compiled form of it. -/
import Derived.Test.YtflmnikjipdhkaaGreatDoorTzG1
import Derived.Test.YtflmnikjipdhkaaGreatDoorTzG3
set_option linter.unusedVariables false
set_option linter.unusedSimpArgs false
set_option linter.unusedSectionVars false
section
/- slices.SortedFunc of a map's edges by place, twelve at most: an oracle. -/
namespace Go.Sh
open Go.Proofs Go.RowKit
section
variable [Held] {P : Program} {B : Nat} {ι : Inj} {h : H} {w w' : World}
theorem Moves.rowF (hs : St B ι h w) (hb : RowKit.Below w.heap.size w w') {g : Nat} {cur : Array Value} {ty : TypeId} {fz : Nat × Nat} (hg : w.heap.size ≤ g) (hc : w'.heap[g]? = some (.cells cur ty fz)) (hfz : ∀ j, j < cur.size → ¬ (fz.1 ≤ j ∧ j < fz.2)) {cs : List SV} (hl : LRel ι cs (cur.toList.take cs.length)) (ha : cs.all SV.isCell = true) (hlen : cs.length ≤ cur.size) :
    Moves B ι h w (upd ι h.next (g, 0, cur.size)) (h.push (.cells cs (.grown none))) w' := by
  have hi : ι h.next = none := fresh_none hs.fresh (Nat.le_refl _)
  have hle : ι.le (upd ι h.next (g, 0, cur.size)) := upd_le hi
  have hgl : g < w'.heap.size := (Array.getElem?_eq_some_iff.1 hc).1
  have old : ∀ k x, k ≠ h.next → upd ι h.next (g, 0, cur.size) k = some x → ι k = some x := fun k x hk h => by simpa [upd, hk] using h
  have here : ∀ x, upd ι h.next (g, 0, cur.size) h.next = some x → x = (g, 0, cur.size) := fun x h => by simpa using h.symm
  have hget : ∀ k, (h.push (.cells cs (.grown none))).get k = if k = h.next then some (.cells cs (.grown none)) else h.get k := fun k => H.get_push _ _ _
  have hother : ∀ k, k ≠ h.next → (h.push (.cells cs (.grown none))).get k = h.get k := fun k hk => by rw [hget, if_neg hk]
  refine .of hs ⟨fun k b o s hk => ?_, fun k x p cs' m hk hgk hp => ?_, fun i j oi oj bi bj si sj obi obj hne hi' hj' hb' hgi hgj hdi hdj => ?_⟩ (fun k x hk => ?_) (Nat.le_trans hs.base hb.size) ?_ low_push
  · by_cases e : k = h.next
    · subst e
      have := here _ hk; cases this
      refine ⟨.cells cs (.grown none), by rw [hget, if_pos rfl], .inr ⟨cur, ty, fz, hc, rfl, by omega, ?_, ha, fun _ => hfz, fun e => by simp at e⟩, hgl, fun _ => Nat.le_trans hs.base hg⟩
      simpa using hl.mono hle
    · have hk' := old k _ e hk
      obtain ⟨ob1, h1, h2, h3, h4⟩ := hs.sim.obj _ _ _ _ hk'
      exact ⟨ob1, (hother k e).trans h1, h2.mono hle (hb.block b h3), Nat.lt_of_lt_of_le h3 hb.size, h4⟩
  · by_cases e : k = h.next
    · subst e
      rw [hget, if_pos rfl] at hgk; cases hgk
      simp [Mode.par] at hp
    · have hk' := old k _ e hk
      rw [hother k e] at hgk
      obtain ⟨h1, h2⟩ := hs.sim.par _ _ _ _ _ hk' hgk hp
      refine ⟨fun h => ?_, h2⟩
      cases e' : ι p with
      | none => exact h1 e'
      | some y => rw [hle _ _ e'] at h; simp at h
  · by_cases e1 : i = h.next
    · subst e1
      have := here _ hi'; cases this
      have hj := old j _ (Ne.symm hne) hj'
      have := hs.sim.size hj
      omega
    · by_cases e2 : j = h.next
      · subst e2
        have := here _ hj'; cases this
        have hj := old i _ hne hi'
        have := hs.sim.size hj
        omega
      · have hi0 := old i _ e1 hi'
        have hj0 := old j _ e2 hj'
        rw [hother i e1] at hgi
        rw [hother j e2] at hgj
        have hst : ∀ cs q, h.get h.next ≠ some (.cells cs (.stale q)) := fun cs q e => by rw [get_next (Nat.le_refl _)] at e; simp at e
        have up : ∀ i j a b, i ≠ h.next → j ≠ h.next → Above h.get i j a b → Above (h.push (.cells cs (.grown none))).get i j a b := fun i j a b h1 h2 ⟨hA, hL⟩ => by
          refine ⟨hA.keep (fun cs m p h h' => ⟨cs, m, (hother i h1).trans h, h'⟩) fun p cs q _ _ hg => hother p fun e => ?_, by rw [hother i h1, hother j h2]; exact hL⟩
          subst e; exact hst _ _ hg
        rcases hs.sim.sep i j oi oj bi bj si sj obi obj hne hi0 hj0 hb' hgi hgj hdi hdj with h | h | h
        · exact .inl h
        · exact .inr (.inl (up i j _ _ e1 e2 h))
        · exact .inr (.inr (up j i _ _ e2 e1 h))
  · show k < h.next + 1
    by_cases e : k = h.next
    · omega
    · have := hs.fresh k x (old k _ e hk); omega
  · refine ⟨hle, Nat.le_succ _, fun k x hk => ?_, fun k h1 h2 => ?_, hb.os, hb.tape, hb.output, hb.size, fun k hk _ => hb.block k hk, fun k x hk hk' => ?_, fun k x ob ob' hk e e' => ?_, fun k hk _ => by rw [hget, if_neg (by omega)]⟩
    · by_cases e : k = h.next
      · exact .inr ⟨by omega, by rw [e]; exact Nat.lt_succ_self _⟩
      · exact .inl (old k _ e hk)
    · have : k = h.next := by have : k < h.next + 1 := h2; omega
      subst this; simp
    · by_cases e : k = h.next
      · subst e
        have := here _ hk'; cases this
        exact .inl hg
      · rw [old k _ e hk'] at hk; simp at hk
    · have e0 : k ≠ h.next := fun e0 => by subst e0; rw [hi] at hk; simp at hk
      rw [hother k e0, e] at e'; cases e'; exact Iff.rfl
end
end Go.Sh
namespace Go.Proofs
open Go.Sh Go.RowKit
set_option maxRecDepth 100000
attribute [local instance] powHeld
noncomputable section
def keysOfE : List (SV × SV × Nat) → Option (List Edg)
  | [] => some []
  | e :: l => match e.1 with
    | .agg [.str a, .int .i64 p, .str d] => (match keysOfE l with
      | some r => some (⟨a, p, d⟩ :: r)
      | none => none)
    | _ => none
def lessK (a b : Edg) : Bool := ltI (cmpE a b) 0
def insK (x : Edg) : List Edg → List Edg
  | [] => [x]
  | y :: l => bB (lessK y x) (y :: insK x l) (x :: y :: l)
def sortK : List Edg → List Edg
  | [] => []
  | x :: l => insK x (sortK l)
def upK : List Edg → Bool
  | x :: y :: l => lessK x y && upK (y :: l)
  | _ => true
theorem insK_perm (x : Edg) : ∀ l, (insK x l).Perm (x :: l)
  | [] => .refl _
  | y :: l => by
    unfold insK
    cases lessK y x
    · exact .refl _
    · exact ((insK_perm x l).cons y).trans (.swap x y l)
theorem sortK_perm : ∀ l, (sortK l).Perm l
  | [] => .refl _
  | x :: l => (insK_perm x _).trans ((sortK_perm l).cons x)
theorem upK_pairwise : ∀ l, upK l = true → l.Pairwise ELt
  | [], _ => .nil
  | [x], _ => by simp
  | x :: y :: l, h => by
    simp only [upK, Bool.and_eq_true] at h
    have ih := upK_pairwise (y :: l) h.2
    have hx : ELt x y := (cmpE_neg x y).symm.trans h.1
    refine List.pairwise_cons.2 ⟨fun z hz => ?_, ih⟩
    rcases List.mem_cons.1 hz with rfl | hz
    · exact hx
    · exact eOrd.trans _ _ _ hx ((List.pairwise_cons.1 ih).1 z hz)
theorem up_nodup {l : List Edg} (h : l.Pairwise ELt) : l.Nodup := h.imp fun {a b} h e => by subst e; exact eOrd.irr _ h
theorem sortK_one {ks ys : List Edg} (h : upK (sortK ks) = true) (hp : ys.Perm ks) : isortE [] ys = sortK ks := by
  have h1 := upK_pairwise _ h
  have hn : ys.Nodup := (hp.trans (sortK_perm ks).symm).nodup_iff.2 (up_nodup h1)
  refine rises_ext eOrd (isortE_rises ys [] .nil (by simpa using hn)) h1 fun x => ?_
  have := (isortE_perm ys []).mem_iff (a := x)
  rw [this, List.nil_append, hp.mem_iff, (sortK_perm ks).mem_iff]
def Edg.ev (e : Edg) : EV := ⟨e.src, e.pc, e.dst⟩
def EV.edg (e : EV) : Edg := ⟨e.src, e.pc, e.dst⟩
theorem ev_edg (l : List EV) : (l.map EV.edg).map Edg.ev = l := by rw [List.map_map]; exact List.map_id _
theorem edg_ev (l : List Edg) : (l.map Edg.ev).map EV.edg = l := by rw [List.map_map]; exact List.map_id _
def evs (l : List Edg) : List Value := l.flatMap fun e => e.ev.cells
theorem evs_flat (l : List Edg) : (l.map Edg.ev).flatMap EV.cells = evs l := by
  induction l with
  | nil => rfl
  | cons x l ih => rw [List.map_cons, List.flatMap_cons, ih]; rfl
theorem edgs_rel {ι : Inj} : ∀ (l : List Edg), LRel ι (edgs l) (evs l) ∧ (edgs l).all SV.isCell = true
  | [] => ⟨rfl, rfl⟩
  | x :: l => ⟨.cons rfl (.cons rfl (.cons rfl (edgs_rel l).1)), by
      show (x.cells ++ edgs l).all SV.isCell = true
      rw [List.all_append, (edgs_rel (ι := ι) l).2]; rfl⟩
theorem edgs_vals {ι : Inj} : ∀ (l : List Edg) (vs : List Value), LRel ι (edgs l) vs → vs = evs l
  | [], vs, h => h
  | x :: l, vs, ⟨a, r, e, ha, b, r1, e1, hb, c, r2, e2, hc, hr⟩ => by
    have hr : LRel ι (edgs l) r2 := hr
    have ha : a = _ := ha
    have hb : b = _ := hb
    have hc : c = _ := hc
    rw [edgs_vals l r2 hr] at e2
    subst ha hb hc e2 e1
    exact e
theorem keysOfE_rel {ι : Inj} : ∀ {es : List (SV × SV × Nat)} {ys : List MapEntry} {ks : List Edg}, ERel ι es ys → keysOfE es = some ks → ys.map (·.key) = (ks.map Edg.ev).map encE ∧ ys.map (·.born) = es.map (·.2.2)
  | [], _, _, h, h' => by cases h; cases h'; exact ⟨rfl, rfl⟩
  | (k, v, b) :: es, _, ks, ⟨e, r, rfl, hk, _, hb, hr⟩, h' => by
    simp only [keysOfE] at h'
    split at h'
    · rename_i s p d
      cases hq : keysOfE es with
      | none => rw [hq] at h'; cases h'
      | some r' =>
        rw [hq] at h'; cases h'
        obtain ⟨h1, h2⟩ := keysOfE_rel hr hq
        obtain ⟨vs, hk, hl, _⟩ := hk
        have hv := edgs_vals [⟨s, p, d⟩] vs.toList hl
        have hv : vs = #[encStr s, .int .i64 p, encStr d] := by apply Array.ext'; rw [hv]; rfl
        subst hv
        refine ⟨?_, by simp [h2, hb]⟩
        rw [List.map_cons, h1, hk]; rfl
    · cases h'
def edgeRow (h : H) : List Edg → SV × H
  | [] => (.nilslice, h)
  | x :: l => (.slice h.next 0 (x :: l).length 3 none, h.push (.cells (edgs (x :: l)) (.grown none)))
def xSortE : List SV → H → Option (SV × H)
  | [.func f [.ptr b 0], .func c []], h => bB (Nat.beq f 188 && Nat.beq c 129) (match h.get b with
    | some (.cells [.map id] .fixed) => (match h.get id with
      | some (.map es c) => bO (keysOfE es) fun ks => bB (upK (sortK ks) && bornB 0 es c && Nat.ble ks.length 12) (some (edgeRow h (sortK ks))) none
      | _ => none)
    | _ => none) none
  | _, _ => none
theorem Tryz.sort187 {w w1 : World} {ks : List Edg} {v : Value} {xs : List EV} (hk : upK (sortK ks) = true) (h12 : ks.length ≤ 12) (hw : HeldAt w.heap.size w) (hS : xs.Perm (ks.map Edg.ev)) (hrow : w1.ownsRow w.heap.size 198 3 v xs.length (xs.flatMap EV.cells)) (hnil : v = .slice none 0 0 ↔ xs = []) (hb : Below w.heap.size w w1) :
    Calls Tryz.prog 187 #[v, .func (.func 129) #[] #[]] w1 fun e w2 => (∃ r, e = .returned r) ∧ Below w.heap.size w w2 ∧ (sortK ks = [] → v = .slice none 0 0) ∧ (sortK ks ≠ [] → ∃ g cap cur ty fz, v = .slice (some ⟨g, 0, none⟩) (sortK ks).length cap ∧ w.heap.size ≤ g ∧ w2.heap[g]? = some (.cells cur ty fz) ∧ (sortK ks).length ≤ cap ∧ cur.size = cap * 3 ∧ cur.toList.take ((sortK ks).length * 3) = evs (sortK ks) ∧ ∀ j, j < cur.size → ¬ (fz.1 ≤ j ∧ j < fz.2)) := by
  have hys : (xs.map EV.edg).Perm ks := by have := hS.map EV.edg; rwa [edg_ev] at this
  obtain ⟨ys, hys0⟩ : ∃ ys, ys = xs.map EV.edg := ⟨_, rfl⟩
  have hxs : xs = ys.map Edg.ev := by rw [hys0, ev_edg]
  rw [← hys0] at hys
  have hone := sortK_one hk hys
  have hlen : (sortK ks).length = ys.length := ((sortK_perm ks).trans hys.symm).length_eq
  have hl12 : ys.length ≤ 12 := by rw [hys.length_eq]; exact h12
  have hxl : xs.length = ys.length := by rw [hxs, List.length_map]
  rw [hxl] at hrow
  rw [hxs, evs_flat] at hrow
  rw [hone.symm] at *
  have hil : (isortE [] ys).length = ys.length := hlen
  rcases hrow.2 with ⟨rfl, h0⟩ | ⟨g, cap, cur, rfl, hg, hcell, hn, hcap, hcs, htk⟩
  · have hy : ys = [] := List.eq_nil_of_length_eq_zero h0
    subst hy
    obtain ⟨v', h', k1, _, _⟩ := Tryz.sortFunc (lo := 0) (v := .nilslice) (l := []) (h := .empty) (by simp) (Nat.zero_le _) Gro.nil
    refine (closed_lim Tryz.good Tryz.X2_ok k1 (us := #[.slice none 0 0, .func (.func 129) #[] #[]]) ⟨_, _, rfl, rfl, _, _, rfl, ⟨#[], rfl, rfl⟩, rfl⟩ Tryz.func187 (body_of (by kernel_rfl)) w1 (held_below hw hb)).mono fun e w2 ⟨v', ι', h1, _, h3⟩ => ?_
    exact ⟨⟨_, h1⟩, hb.trans (h3.mono hb.size), fun _ => rfl, fun e => absurd rfl e⟩
  · have hrel := edgs_rel (ι := none0) ys
    have M := Moves.row (st_empty w hw) hb hg hcell (cs := edgs ys) (by rw [edgs_len, htk]; exact hrel.1) hrel.2 (by rw [edgs_len, hcs]; exact Nat.mul_le_mul_right 3 hn)
    have hG : Gro (H.empty.push (.cells (edgs ys) (.grown none))) 0 3 (.slice 0 0 ys.length 3 none) ys.length (edgs ys) := ⟨edgs_len _, .inr ⟨0, none, rfl, Nat.zero_le _, get_pushed rfl, .none⟩⟩
    obtain ⟨v', h', k1, k2, k3⟩ := Tryz.sortFunc hl12 (Nat.zero_le _) hG
    have hA := lim_ok Tryz.good Tryz.X2_ok 187 _ _ v' h' k1 w.heap.size _ w1 #[.slice (some ⟨g, 0, none⟩) ys.length cap, .func (.func 129) #[] #[]] M.st
      ⟨_, _, rfl, ⟨g, 0, cur.size, cap, upd_same, fun k e => by simp at e, hn, by omega, .inl rfl⟩, _, _, rfl, ⟨#[], rfl, rfl⟩, rfl⟩
    rcases hA with ⟨_, hc⟩ | ⟨_, _, hc, _⟩
    · refine hc.mono fun e w2 ⟨v2, h1, ι2, _, hm⟩ => ?_
      have hb2 : Below w.heap.size w1 w2 := ⟨hm.ext.os, hm.ext.tape, hm.ext.output, hm.ext.size, fun b hbb => hm.ext.frame b (Nat.lt_of_lt_of_le hbb hb.size) fun id x ob hi hx _ => by
        by_cases e0 : id = 0
        · subst e0
          have : x = (g, 0, cur.size) := by simpa [upd, H.empty] using hi.symm
          subst this
          have : g = b := hx
          omega
        · simp [upd, none0, H.empty, e0] at hi⟩
      refine ⟨⟨_, h1⟩, hb.trans hb2, fun e => ?_, fun _ => ?_⟩
      · rw [e] at hil
        have : ys = [] := List.eq_nil_of_length_eq_zero hil.symm
        exact hnil.2 (by rw [hxs, this]; rfl)
      · obtain ⟨_, ⟨e, _⟩ | ⟨id, par, e, _, h3, _⟩⟩ := k2
        · cases e
        · cases e
          have hi2 : ι2 0 = some (g, 0, cur.size) := hm.ext.inj _ _ upd_same
          obtain ⟨ob, o1, o2, o3, o4⟩ := hm.st.sim.obj _ _ _ _ hi2
          rw [h3] at o1; cases o1
          rcases o2 with hd | ⟨rc, el, fz, c1, c2, c3, c4, c5, c6, c7⟩
          · cases hd
          · refine ⟨g, cap, rc, el, fz, by rw [hil], hg, c1, by rw [hil]; exact hn, by rw [c2, hcs], ?_, ?_⟩
            · have := edgs_vals _ _ c4
              rw [edgs_len] at this
              simpa using this
            · rw [c2]; exact c6 (by simp)
    · cases hc
theorem Tryz.xSortE_ok : OrOK Tryz.prog (127, xSortE) := by
  intro args h v h' hx B ι w us hs hl
  change xSortE args h = some (v, h') at hx
  unfold xSortE at hx
  split at hx
  · rename_i f b c
    obtain ⟨hf, hx1⟩ := bB_some hx
    clear hx
    have hx := hx1
    clear hx1
    rw [Bool.and_eq_true] at hf
    have hf1 := Nat.eq_of_beq_eq_true hf.1
    have hf2 := Nat.eq_of_beq_eq_true hf.2
    subst hf1 hf2
    obtain ⟨u, r, e1, ⟨vs, hu, x, r', e2, ⟨bb, o, s, hb, hxv⟩, e3⟩, u2, r2, e4, ⟨vs2, hu2, e5⟩, e6⟩ := hl
    have hvs : vs = #[x] := by apply Array.ext'; rw [e2, e3]
    have hvs2 : vs2 = #[] := by apply Array.ext'; exact e5
    subst hvs hvs2
    have hus : us = #[u, u2] := by apply Array.ext'; rw [e1, e4, e6]
    subst hus hu hu2 hxv
    have box : ∀ c, h.get b = some (.cells [c] .fixed) → ∃ y, o = 0 ∧ w.cell? ⟨bb, 0, none⟩ = some y ∧ VRel ι c y := by
      intro c hc
      obtain ⟨rc, el, fz, c1, c2, c3, c4, c5, c6, c7⟩ := cells_real hs.sim hb hc (by simp)
      obtain ⟨ho, _, _⟩ := c7 rfl
      subst ho
      obtain ⟨vs, hl', hall, hle', hcell⟩ := row_real hs.sim hb (show rowCells h.get b = some [c] by simp [rowCells, hc])
      obtain ⟨y, r, e, hy, _⟩ := hl'
      refine ⟨y, rfl, ?_, hy⟩
      have := hcell 0 y (by rw [e]; rfl)
      simpa using this
    have hbs := hs.sim.size hb
    have hh := held_up B w hs.held.1 hs.held hs.base
    split at hx
    · rename_i id hc
      obtain ⟨y, ho, hcell, mb, o2, s2, hid, hy⟩ := box _ hc
      subst ho hy
      split at hx
      · rename_i es cl hm
        obtain ⟨ks, hk, hx⟩ := bO_some hx
        obtain ⟨hchk, hx⟩ := bB_some hx
        simp only [Bool.and_eq_true] at hchk
        obtain ⟨⟨k1, k2⟩, k3⟩ := hchk
        have k3 := Nat.le_of_ble_eq_true k3
        have hx : edgeRow h (sortK ks) = (v, h') := by simpa using hx
        obtain ⟨es', hh', her⟩ := map_real hs.sim hid hm
        obtain ⟨q1, q2⟩ := keysOfE_rel her hk
        obtain ⟨q3, q4⟩ := bornB_ok k2
        refine .inl ⟨enters_of Tryz.func127 (by kernel_rfl) rfl _ _, ?_⟩
        have hseq := Tryz.keysE Fence.wide 2 trivial rfl (by omega) bb mb cl es' (ks.map Edg.ev) w hbs hcell hh' q1 (fun x hx => by
          have : x.born ∈ es'.toList.map (·.born) := List.mem_map.2 ⟨x, hx, rfl⟩
          rw [q2] at this
          obtain ⟨z, hz, hzk⟩ := List.mem_map.1 this
          rw [← hzk]; exact (q3 z hz).2) (by rw [q2]; exact q4)
        rw [List.length_map] at hseq
        refine (Tryz.sfE _ _ _ ks.length (by unfold maxLen; omega) (by omega) w hseq _ fun w1 v xs hS hrow hnil hb => Tryz.sort187 k1 k3 hh hS hrow hnil hb).mono ?_
        rintro e w2 ⟨v1, xs, h1, _, h2, h3, h4⟩
        refine ⟨v1, h1, ?_⟩
        cases hss : sortK ks with
        | nil =>
          rw [hss] at hx
          cases hx
          exact ⟨ι, by rw [h3 hss]; rfl, .below hs h2⟩
        | cons a l =>
          obtain ⟨g, cap, cur, ty, fz, hv, hg, hc2, hn, hcs, htk, hfz⟩ := h4 (by rw [hss]; simp)
          rw [hss] at hx hv hn htk
          cases hx
          have hrow := edgs_rel (ι := ι) (a :: l)
          refine ⟨_, ⟨g, 0, cur.size, cap, upd_same, fun k e => by simp at e, hn, by omega, .inl hv⟩, .rowF hs h2 hg hc2 hfz ?_ hrow.2 (by rw [edgs_len, hcs]; exact Nat.mul_le_mul_right 3 hn)⟩
          rw [edgs_len, htk]
          exact hrow.1
      · cases hx
    · cases hx
  · cases hx
end
end Go.Proofs
end
section
/- Oracles more: names, prefixes, edges by place. -/
namespace Go.Proofs
open Go.Sh
set_option maxRecDepth 100000
attribute [local instance] powHeld
noncomputable section
theorem or_lim {P : Program} {X : FuncId → Option (List SV → H → Option (SV × H))} (hG : Go.Sh.Good P) (hX : OracleOK P X) {f : FuncId} {g : List SV → H → Option (SV × H)} (hg : ∀ args h v h', g args h = some (v, h') → (lim P X).call f args h = some (v, h')) : OrOK P (f, g) :=
  fun args h v h' q => lim_ok hG hX f args h v h' (hg _ _ _ _ q)
def xName : List SV → H → Option (SV × H)
  | [.str s], h => bB (Nat.blt s.length 4294967296) (some (.bool (nameB s), h)) none
  | _, _ => none
def xCut : List SV → H → Option (SV × H)
  | [.str s, .str p], h => some (cutV s p, h)
  | _, _ => none
theorem Tryz.xName_ok : OrOK Tryz.prog (37, xName) := or_lim Tryz.good Tryz.X2_ok fun args h v h' hx => by
  unfold xName at hx
  split at hx
  · rename_i s
    obtain ⟨h1, h2⟩ := bB_some hx
    cases h2
    have h1 : s.length < 4294967296 := Nat.le_of_ble_eq_true h1
    exact Tryz.name _ (by omega)
  · cases hx
theorem Tryz.xCut_ok : OrOK Tryz.prog (192, xCut) := or_lim Tryz.good Tryz.X2_ok fun args h v h' hx => by
  unfold xCut at hx
  split at hx
  · cases hx
    exact Tryz.cutPrefix _
  · cases hx
def Tryz.OL3 : OrL := [(127, xSortE), (37, xName), (192, xCut)]
def Tryz.X3 : FuncId → Option (List SV → H → Option (SV × H)) := orGet Tryz.X2 Tryz.OL3
theorem Tryz.X3_ok : OracleOK Tryz.prog Tryz.X3 := orGet_ok Tryz.X2_ok (l := Tryz.OL3) ⟨Tryz.xSortE_ok, Tryz.xName_ok, Tryz.xCut_ok, trivial⟩
end
end Go.Proofs
end
section
/- awake: the run of the compiled machine. -/
namespace Go.Proofs
open Go.Sh
set_option maxRecDepth 100000
attribute [local instance] powHeld
theorem Tryz.awake11 : ((kcall Tryz.kTab.get Tryz.X3 100000 11 [] .empty).map (·.1)) = some (.bool true) := by kernel_rfl
end Go.Proofs
end
section
/- awake as an oracle. -/
namespace Go.Proofs
open Go.Sh
set_option maxRecDepth 100000
attribute [local instance] powHeld
noncomputable section
theorem Tryz.awake_or : OrOK Tryz.prog (11, xBool true) := by
  have h1 := Tryz.awake11
  cases h2 : kcall Tryz.kTab.get Tryz.X3 100000 11 [] .empty with
  | none => rw [h2] at h1; cases h1
  | some r =>
    rw [h2] at h1
    obtain ⟨v, h'⟩ := r
    cases h1
    exact xBool_ok Tryz.good Tryz.X3_ok (kcall_ok Tryz.kTab_ok 100000 _ _ _ _ h2) Tryz.func11 (body_of (by kernel_rfl)) held_up
def Tryz.OL4 : OrL := [(11, xBool true)]
def Tryz.X4 : FuncId → Option (List SV → H → Option (SV × H)) := orGet Tryz.X3 Tryz.OL4
theorem Tryz.X4_ok : OracleOK Tryz.prog Tryz.X4 := orGet_ok Tryz.X3_ok (l := Tryz.OL4) ⟨Tryz.awake_or, trivial⟩
abbrev Tryz.l4 : CF := (lim Tryz.prog Tryz.X4).call
end
end Go.Proofs
end
