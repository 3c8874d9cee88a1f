/- RegirTexts: the words and numerals as oracles; texts of instructions. -/
import Derived.Test.YtbmeldgbmlfmgaaGreatDoorTzRC
set_option linter.unusedVariables false
set_option linter.unusedSimpArgs false
set_option linter.unusedSectionVars false
namespace Go.Proofs
open Go.Sh
set_option linter.unusedVariables false
attribute [local instance] powHeld
noncomputable section
def gWord : List SV → Option SV
  | [.int .i64 n] => some (.str (wordOf n))
  | _ => none
def gDec : List SV → Option SV
  | [.int .i64 n] => bB (ltI n 9223372036854775808) (bB (ltI n (-9223372036854775808)) none (some (.str (itoaS n)))) none
  | _ => none
def gReg : List SV → Option SV
  | [.int .i64 n] => bB (ltI n 9223372036854775808) (bB (ltI n (-9223372036854775808)) none (some (.str (114 :: itoaS n)))) none
  | _ => none
def gJmp : List SV → Option SV
  | [.int .i64 n] => some (.bool (jmp n))
  | _ => none
theorem int_range {n : Int} {a : SV} {v : SV} (e : bB (ltI n 9223372036854775808) (bB (ltI n (-9223372036854775808)) none (some a)) none = some v) : -9223372036854775808 ≤ n ∧ n ≤ 9223372036854775807 ∧ v = a := by
  cases hb : ltI n 9223372036854775808
  · rw [hb] at e; cases e
  · cases hc : ltI n (-9223372036854775808)
    · rw [hb, hc] at e
      rw [ltI_eq] at hb hc
      have hb := of_decide_eq_true hb
      have hc := of_decide_eq_false hc
      exact ⟨by omega, by omega, (Option.some.inj e).symm⟩
    · rw [hb, hc] at e; cases e
theorem gWord_ok {f : FuncId} (hf : ∀ op, ∃ r h', Tryz.lc f [.int .i64 op] .empty = some (r, h') ∧ TextRes .empty (wordOf op) r h') : ∀ args v, gWord args = some v → args.all plain1 = true ∧ plainV v = true ∧ ∃ h', Tryz.lc f args H.empty = some (v, h') := by
  intro args v e
  unfold gWord at e
  split at e
  · rename_i n
    cases e
    obtain ⟨r, h', k1, rfl, _⟩ := hf n
    exact ⟨rfl, rfl, h', k1⟩
  · cases e
theorem gJmp_ok {f : FuncId} (hf : ∀ op, Tryz.lc f [.int .i64 op] .empty = some (.bool (jmp op), .empty)) : ∀ args v, gJmp args = some v → args.all plain1 = true ∧ plainV v = true ∧ ∃ h', Tryz.lc f args H.empty = some (v, h') := by
  intro args v e
  unfold gJmp at e
  split at e
  · rename_i n
    cases e
    exact ⟨rfl, rfl, _, hf n⟩
  · cases e
theorem gDec_ok : ∀ args v, gDec args = some v → args.all plain1 = true ∧ plainV v = true ∧ ∃ h', Tryz.lc 17 args H.empty = some (v, h') := by
  intro args v e
  unfold gDec at e
  split at e
  · rename_i n
    obtain ⟨a, b, rfl⟩ := int_range e
    obtain ⟨r, h', k1, rfl, _⟩ := Tryz.decimal n a b .empty
    exact ⟨rfl, rfl, h', k1⟩
  · cases e
theorem gReg_ok : ∀ args v, gReg args = some v → args.all plain1 = true ∧ plainV v = true ∧ ∃ h', Tryz.lc 12 args H.empty = some (v, h') := by
  intro args v e
  unfold gReg at e
  split at e
  · rename_i n
    obtain ⟨a, b, rfl⟩ := int_range e
    exact ⟨rfl, rfl, _, Tryz.regText n a b .empty⟩
  · cases e
def Tryz.OL : OrL := [(11, xPure gWord), (16, xPure gWord), (17, xPure gDec), (12, xPure gReg), (14, xPure gJmp), (18, xPure gJmp)]
theorem Tryz.pureOr {f : FuncId} {g : List SV → Option SV} (hg : ∀ args v, g args = some v → args.all plain1 = true ∧ plainV v = true ∧ ∃ h', Tryz.lc f args H.empty = some (v, h')) {fn : Func} {c : Code} (hf : Tryz.prog.funcs[f]? = some fn) (hb : fn.body = some c) : OrOK Tryz.prog (f, xPure g) :=
  xPure_ok Tryz.good Tryz.X_ok hg hf hb (fun B w hb hw hle => ⟨Nat.le_trans hb hle, hw.2⟩)
theorem body_of {fn : Func} (h : fn.body.isSome = true) : fn.body = some (fn.body.get h) := by simp
def Tryz.X2 : FuncId → Option (List SV → H → Option (SV × H)) := orGet Tryz.X Tryz.OL
set_option maxRecDepth 100000 in
theorem Tryz.X2_ok : OracleOK Tryz.prog Tryz.X2 := orGet_ok Tryz.X_ok (l := Tryz.OL) ⟨
  Tryz.pureOr (gWord_ok fun op => Tryz.word op _) Tryz.func11 (body_of (by kernel_rfl)), Tryz.pureOr (gWord_ok fun op => Tryz.word' op _) Tryz.func16 (body_of (by kernel_rfl)), Tryz.pureOr gDec_ok Tryz.func17 (body_of (by kernel_rfl)),
  Tryz.pureOr gReg_ok Tryz.func12 (body_of (by kernel_rfl)), Tryz.pureOr (gJmp_ok fun op => Tryz.jumps op _) Tryz.func14 (body_of (by kernel_rfl)), Tryz.pureOr (gJmp_ok fun op => Tryz.jumps' op _) Tryz.func18 (body_of (by kernel_rfl)), trivial⟩
abbrev Tryz.l2 : CF := (lim Tryz.prog Tryz.X2).call
abbrev I64 (n : Int) : Prop := -9223372036854775808 ≤ n ∧ n ≤ 9223372036854775807
theorem in_range {n : Int} (hn : I64 n) (a : Option SV) : bB (ltI n 9223372036854775808) (bB (ltI n (-9223372036854775808)) none a) none = a := by
  rw [ltIt (by have := hn.2; omega), ltIf (by have := hn.1; omega)]; rfl
theorem Tryz.word2 (n : Int) (h : H) : Tryz.l2 11 [.int .i64 n] h = some (.str (wordOf n), h) := lc_or (g := xPure gWord) rfl _ _
theorem Tryz.word3 (n : Int) (h : H) : Tryz.l2 16 [.int .i64 n] h = some (.str (wordOf n), h) := lc_or (g := xPure gWord) rfl _ _
theorem Tryz.jump2 (n : Int) (h : H) : Tryz.l2 14 [.int .i64 n] h = some (.bool (jmp n), h) := lc_or (g := xPure gJmp) rfl _ _
theorem Tryz.jump3 (n : Int) (h : H) : Tryz.l2 18 [.int .i64 n] h = some (.bool (jmp n), h) := lc_or (g := xPure gJmp) rfl _ _
theorem Tryz.dec2 {n : Int} (hn : I64 n) (h : H) : Tryz.l2 17 [.int .i64 n] h = some (.str (itoaS n), h) := by
  rw [show Tryz.l2 17 [.int .i64 n] h = xPure gDec [.int .i64 n] h from lc_or (g := xPure gDec) rfl _ _]
  unfold xPure gDec
  simp only [in_range hn]
theorem Tryz.reg2 {n : Int} (hn : I64 n) (h : H) : Tryz.l2 12 [.int .i64 n] h = some (.str (114 :: itoaS n), h) := by
  rw [show Tryz.l2 12 [.int .i64 n] h = xPure gReg [.int .i64 n] h from lc_or (g := xPure gReg) rfl _ _]
  unfold xPure gReg
  simp only [in_range hn]
theorem Tryz.itoa2 {n : Int} (hn : I64 n) (h : H) : Tryz.l2 15 [.int .i64 n] h = some (.str (itoaS n), h) := by
  rw [show Tryz.l2 15 [.int .i64 n] h = xItoa [.int .i64 n] h from lc_or (g := xItoa) rfl _ _]
  unfold xItoa
  simp only
  rw [ltIt (by have := hn.2; omega), ltIf (by have := hn.1; omega)]; rfl
theorem Tryz.awake2 (h : H) : Tryz.l2 5 [] h = some (.bool true, h) := lc_or (g := xBool true) rfl _ _
theorem Tryz.join2 (args : List SV) (h : H) : Tryz.l2 13 args h = xJoin args h := lc_or (g := xJoin) rfl _ _
def strs (l : List (List UInt8)) : List SV := l.map .str
theorem strsOf_strs : ∀ l, strsOf (strs l) = some l
  | [] => rfl
  | x :: l => by
    show (match strsOf (strs l) with
      | some r => some (x :: r)
      | none => none) = _
    rw [strsOf_strs l]
theorem join_view {h : H} {v : SV} {l : List (List UInt8)} (w : View h 1 v l.length (strs l)) (sep : List UInt8) (hl : l.length ≤ 140737488355328) (hj : (Lib.join l sep).length ≤ 140737488355328) : xJoin [v, .str sep] h = some (.str (Lib.join l sep), h) := by
  obtain ⟨h1, ⟨rfl, h2⟩ | ⟨id, off, cap, all, rfl, h2, h3, h4⟩⟩ := w
  · have : l = [] := List.eq_nil_of_length_eq_zero h2
    subst this; rfl
  · rw [Nat.mul_one] at h3
    unfold xJoin
    simp only [h2, h3, strsOf_strs]
    rw [if_pos ⟨hl, hj⟩]
/-- what a list of registers is written as, behind so many others -/
def srcText : Nat → List Int → List UInt8
  | _, [] => []
  | i, z :: zs => (if i = 0 then [] else [44]) ++ [32, 114] ++ itoaS z ++ srcText (i + 1) zs
theorem srcText_len : ∀ (zs : List Int) (i : Nat), (srcText i zs).length ≤ 24 * zs.length
  | [], _ => by simp [srcText]
  | z :: zs, i => by
    have := srcText_len zs (i + 1)
    have := itoaS_len z
    unfold srcText
    split <;> simp <;> omega
theorem srcText_tail : ∀ (zs : List Int) (i : Nat), srcText (i + 1) zs = Lib.joinTail [44, 32] (zs.map fun z => 114 :: itoaS z)
  | [], _ => rfl
  | z :: zs, i => by
    have := srcText_tail zs (i + 1)
    unfold srcText
    rw [this]
    simp [Lib.joinTail]
theorem srcText_join (z : Int) (zs : List Int) : srcText 0 (z :: zs) = 32 :: Lib.join ((z :: zs).map fun z => 114 :: itoaS z) [44, 32] := by
  rw [List.map_cons, Lib.join_cons, ← srcText_tail zs 0]
  simp [srcText]
set_option maxRecDepth 100000 in
theorem words_short : ((List.range 39).all fun n => Nat.ble (wordN n).length 20) = true := by kernel_rfl
theorem wordOf_len (op : Int) : (wordOf op).length ≤ 20 := by
  unfold wordOf
  split
  · have := List.all_eq_true.1 words_short op.toNat (List.mem_range.2 (by omega))
    exact Nat.le_of_ble_eq_true this
  · simp
/-- An instruction of registers: what is written of it. -/
def insText (op dst : Int) (src : List Int) (to : Int) : List UInt8 :=
  (if dst = -1 then wordOf op else [114] ++ itoaS dst ++ [32, 61, 32] ++ wordOf op) ++ srcText 0 src ++ (if jmp op = true then [32, 45, 62, 32] ++ itoaS to else [])
def insCells (op dst : Int) (src : SV) (to : Int) (o : List SV) : List SV := .int .i64 op :: .int .i64 dst :: src :: .int .i64 to :: o
end
end Go.Proofs
