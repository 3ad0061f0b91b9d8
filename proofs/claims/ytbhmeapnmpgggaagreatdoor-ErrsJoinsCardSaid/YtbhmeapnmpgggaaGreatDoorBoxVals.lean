/- The values of package datum: what stands behind a Datum, and the map of its boxes. No condition. -/
import Derived.Test.YtbhmeapnmpgggaaGreatDoorKit
import Derived.Test.YtbhmeapnmpgggaaGreatDoorReg
import Derived.MapKept
import Derived.Test.YtbhmeapnmpgggaaGreatDoorPlain1
import Derived.LaidEql
import Derived.Laws.StructEq
import Derived.Lib.SmallJoins
import Derived.Lib.ConvBytes
import Derived.Laws.OwnMore
namespace Go.Proofs.YtbhmeapnmpgggaaGreatDoor
open Go.RowKit

/-! the map of boxes: numbers, and the blocks of their boxes -/
def ents : List (Int × Nat) → Nat → List MapEntry
  | [], _ => []
  | (n, g) :: m, i => { key := .int .i64 n, val := .pointer (some ⟨g, 0, none⟩), born := i } :: ents m (i + 1)
theorem ents_app : ∀ (m m' : List (Int × Nat)) (i : Nat), ents (m ++ m') i = ents m i ++ ents m' (i + m.length)
  | [], _, _ => rfl
  | (n, g) :: m, m', i => by
    simp only [List.cons_append, ents, ents_app m m' (i + 1), List.length_cons]
    rw [show i + 1 + m.length = i + (m.length + 1) from by omega]
def mfind : List (Int × Nat) → Int → Option Nat
  | [], _ => none
  | (k, g) :: m, n => if k = n then some g else mfind m n
theorem mfind_mem : ∀ {m : List (Int × Nat)} {n : Int} {g : Nat}, mfind m n = some g → (n, g) ∈ m
  | [], _, _, h => by cases h
  | (k, g') :: m, n, g, h => by
    unfold mfind at h
    split at h
    · rename_i e; subst e; injection h with h; subst h; exact List.mem_cons_self ..
    · exact List.mem_cons_of_mem _ (mfind_mem h)
theorem mfind_none : ∀ {m : List (Int × Nat)} {n : Int} {g : Nat}, mfind m n = none → (n, g) ∉ m
  | [], _, _, _ => by simp
  | (k, g') :: m, n, g, h => by
    unfold mfind at h
    split at h
    · cases h
    · rename_i e
      intro hm
      rcases List.mem_cons.1 hm with h' | h'
      · injection h' with a b; exact e a.symm
      · exact mfind_none h h'
theorem findNow_none : ∀ {m : List (Int × Nat)} {n : Int} (i j : Nat), mfind m n = none → Instr.findNow (.int .i64) (.int .i64 n) (ents m i) j = some none
  | [], _, _, _, _ => rfl
  | (k, g) :: m, n, i, j, h => by
    unfold mfind at h
    split at h
    · cases h
    · rename_i e
      have hb : (n == k) = false := by simpa using fun h => e h.symm
      simp [ents, Instr.findNow, Instr.sameNow, hb, findNow_none (i + 1) (j + 1) h]
theorem findNow_some : ∀ {m : List (Int × Nat)} {n : Int} {g : Nat} (i j : Nat), mfind m n = some g → ∃ q, Instr.findNow (.int .i64) (.int .i64 n) (ents m i) j = some (some (q, .pointer (some ⟨g, 0, none⟩)))
  | [], _, _, _, _, h => by cases h
  | (k, g') :: m, n, g, i, j, h => by
    unfold mfind at h
    split at h
    · rename_i e
      subst e
      injection h with h
      subst h
      exact ⟨j, by simp [ents, Instr.findNow, Instr.sameNow]⟩
    · rename_i e
      have hb : (n == k) = false := by simpa using fun h => e h.symm
      obtain ⟨q, hq⟩ := findNow_some (i + 1) (j + 1) h
      exact ⟨q, by simp [ents, Instr.findNow, Instr.sameNow, hb, hq]⟩

def setMap (w : World) (M : Nat) (o : Obj) : World := { w with heap := w.heap.setIfInBounds M o }
structure Boxes (B : Nat) (w : World) (M : Nat) (m : List (Int × Nat)) : Prop where
  low : B ≤ M
  mp : w.heap[M]? = some (.map (ents m 0).toArray m.length)
  box : ∀ n g, (n, g) ∈ m → B ≤ g ∧ ∃ x, Blk w g 230 #[.int .i64 n, x]
  nums : (m.map (·.1)).Nodup
  blks : (m.map (·.2)).Nodup

theorem uMap : Tryz.prog.underlying 170 = some (.map 2 228) := Tryz.underlying170
theorem uI64 : Tryz.prog.underlying 2 = some (.int .i64) := Tryz.underlying2
theorem zeroBox : ∀ w, (zeroValue 228).run Tryz.prog w = .ok (.pointer none) w := fun _ => by kernel_rfl
theorem run_lookup_box {B : Nat} {w : World} {M : Nat} {m : List (Int × Nat)} (h : Boxes B w M m) (n : Int) :
    (Instr.lookup 170 (.map (some M)) (.int .i64 n) false).run Tryz.prog w = .ok (.pointer ((mfind m n).map fun g => ⟨g, 0, none⟩)) w := by
  cases hf : mfind m n with
  | none =>
    have hk := MapKept.run_findKey (P := Tryz.prog) (w := w) uI64 (findNow_none 0 0 hf)
    simp [Instr.lookup, run_underlying uMap, MapKept.run_getObj_map h.mp, MapKept.run_checkKey uI64 (k := .int .i64 n) (by simp [MapKept.IsKey]), Result.andThen, hk]
  | some g =>
    obtain ⟨q, hq⟩ := findNow_some 0 0 hf
    have hk := MapKept.run_findKey (P := Tryz.prog) (w := w) uI64 hq
    simp [Instr.lookup, run_underlying uMap, MapKept.run_getObj_map h.mp, MapKept.run_checkKey uI64 (k := .int .i64 n) (by simp [MapKept.IsKey]), Result.andThen, hk]
theorem run_update_box {B : Nat} {w : World} {M : Nat} {m : List (Int × Nat)} (h : Boxes B w M m) {n : Int} (g : Nat) (hf : mfind m n = none) :
    (Instr.mapUpdate 170 (.map (some M)) (.int .i64 n) (.pointer (some ⟨g, 0, none⟩))).run Tryz.prog w = .ok () (setMap w M (.map (ents (m ++ [(n, g)]) 0).toArray (m ++ [(n, g)]).length)) := by
  have hk := MapKept.run_findKey (P := Tryz.prog) (w := w) uI64 (findNow_none 0 0 hf)
  have he : (ents m 0).toArray.push { key := .int .i64 n, val := .pointer (some ⟨g, 0, none⟩), born := m.length } = (ents (m ++ [(n, g)]) 0).toArray := by
    rw [ents_app]
    simp [ents]
  simp [Instr.mapUpdate, run_underlying uMap, MapKept.run_getObj_map h.mp, MapKept.run_checkKey uI64 (k := .int .i64 n) (by simp [MapKept.IsKey]), Result.andThen, hk, MapKept.run_setObj_map _ h.mp, setMap, ← he]

/-- what stands behind a Datum: its interface value -/
inductive DV (m : List (Int × Nat)) : D → Value → Prop
  | nil (i b t A c l) : DV m (.mk 0 i b t A c l) .nilIface
  | number (i b t A c l) : DV m (.mk 1 i b t A c l) (.iface 214 (.int .i64 i))
  | key (i b t A c l) : DV m (.mk 2 i b t A c l) (.iface 215 (.int .i64 i))
  | float (i b t A c l) : DV m (.mk 3 i b t A c l) (.iface 216 (.float .f64 b.toNat))
  | text (i b t A c l) : DV m (.mk 4 i b t A c l) (.iface 217 (.string t))
  | name (i b t A c l) : DV m (.mk 5 i b t A c l) (.iface 218 (.string t))
  | boolean (i b t A c l) : DV m (.mk 6 i b t A c l) (.iface 219 (.bool (i == 1)))
  | octets (i b t A c l a n k) : DV m (.mk 7 i b t A c l) (.iface 220 (.slice a n k))
  | list (i b t A c l a n k) : DV m (.mk 8 i b t A c l) (.iface 222 (.slice a n k))
  | pair (i b t A c) {x y v1 v2} : DV m x v1 → DV m y v2 → DV m (.mk 9 i b t A c [x, y]) (.iface 225 (.agg #[v1, v2]))
  | failure (i b t A c l) : DV m (.mk 10 i b t A c l) (.iface 227 (.agg #[.int .i64 i, .string t]))
  | box (i b t A c l) {g} : (i, g) ∈ m → DV m (.mk 11 i b t A c l) (.iface 228 (.pointer (some ⟨g, 0, none⟩)))
  | noBox (i b t A c l) : DV m (.mk 12 i b t A c l) (.iface 228 (.pointer none))
  | unit (i b t A c l) : DV m (.mk 13 i b t A c l) (.iface 232 (.agg #[]))
theorem DV.mono {m m' : List (Int × Nat)} (hm : ∀ x ∈ m, x ∈ m') {d : D} {v : Value} (h : DV m d v) : DV m' d v := by
  induction h with
  | pair _ _ _ _ _ _ _ h1 h2 => exact .pair _ _ _ _ _ h1 h2
  | box _ _ _ _ _ _ hg => exact .box _ _ _ _ _ _ (hm _ hg)
  | _ => constructor

theorem fromBits (n : Int) : ∀ w, (callFunc 90 #[.int .u64 n]).run Tryz.prog w = .ok (.value (.float .f64 n.toNat)) w := fun _ => by kernel_rfl
end Go.Proofs.YtbhmeapnmpgggaaGreatDoor
/- == of two values of package datum. Condition: the two Datums are right. -/
namespace Go.Proofs.YtbhmeapnmpgggaaGreatDoor
open Go.RowKit

def D.feq (a b : Int) : Bool := Op.floatEq .f64 a.toNat b.toNat
mutual
/-- ==: what it is, and whether it panics -/
def D.req : D → D → Bool × Bool
  | .mk k i b t _ _ l, y => if k ≠ y.k then (false, false) else if k = 7 ∨ k = 8 then (false, true) else if k = 3 then (D.feq b y.b, false) else if k = 9 then D.reqL l y.l else (decide (i = y.i) && decide (t = y.t), false)
def D.reqL : List D → List D → Bool × Bool
  | x :: l, y :: m => if (x.req y).2 then (false, true) else if (x.req y).1 then D.reqL l m else (false, false)
  | _, _ => (true, false)
end
section
variable (w : World)
theorem eqNumber (T : TypeId) (hT : T = 214 ∨ T = 215) (a b : Int) : (binOp .eql 20 (.iface T (.int .i64 a)) (.iface T (.int .i64 b))).run Tryz.prog w = .ok (.bool (a == b)) w := by
  rcases hT with rfl | rfl
  · kernel_rfl
  · kernel_rfl
theorem eqFloat (a b : Nat) : (binOp .eql 20 (.iface 216 (.float .f64 a)) (.iface 216 (.float .f64 b))).run Tryz.prog w = .ok (.bool (Op.floatEq .f64 a b)) w := by kernel_rfl
theorem eqString (T : TypeId) (hT : T = 217 ∨ T = 218) (a b : ByteArray) : (binOp .eql 20 (.iface T (.string a)) (.iface T (.string b))).run Tryz.prog w = .ok (.bool (a == b)) w := by
  rcases hT with rfl | rfl
  · kernel_rfl
  · kernel_rfl
theorem eqBoolean (a b : Bool) : (binOp .eql 20 (.iface 219 (.bool a)) (.iface 219 (.bool b))).run Tryz.prog w = .ok (.bool (a == b)) w := by kernel_rfl
theorem eqOctets (x y : Value) : (binOp .eql 20 (.iface 220 x) (.iface 220 y)).run Tryz.prog w = .halt (.panic (.iface Tryz.prog.rt.errorString (strVal "comparing uncomparable type datum.octets"))) w := by kernel_rfl
theorem eqList (x y : Value) : (binOp .eql 20 (.iface 222 x) (.iface 222 y)).run Tryz.prog w = .halt (.panic (.iface Tryz.prog.rt.errorString (strVal "comparing uncomparable type datum.list"))) w := by kernel_rfl
theorem eqUnit : (binOp .eql 20 (.iface 232 (.agg #[])) (.iface 232 (.agg #[]))).run Tryz.prog w = .ok (.bool true) w := by kernel_rfl
theorem eqNoBox : (binOp .eql 20 (.iface 228 (.pointer none)) (.iface 228 (.pointer none))).run Tryz.prog w = .ok (.bool true) w := by kernel_rfl
theorem eqBoxNo (g : Nat) : (binOp .eql 20 (.iface 228 (.pointer (some ⟨g, 0, none⟩))) (.iface 228 (.pointer none))).run Tryz.prog w = .ok (.bool false) w := by kernel_rfl
theorem eqNoBoxSome (g : Nat) : (binOp .eql 20 (.iface 228 (.pointer none)) (.iface 228 (.pointer (some ⟨g, 0, none⟩)))).run Tryz.prog w = .ok (.bool false) w := by kernel_rfl
theorem eqNil : (binOp .eql 20 .nilIface .nilIface).run Tryz.prog w = .ok (.bool true) w := by kernel_rfl
theorem eqNilSome (T : TypeId) (x : Value) : (binOp .eql 20 .nilIface (.iface T x)).run Tryz.prog w = .ok (.bool false) w := by kernel_rfl
theorem eqSomeNil (T : TypeId) (x : Value) : (binOp .eql 20 (.iface T x) .nilIface).run Tryz.prog w = .ok (.bool false) w := by kernel_rfl
theorem eqOther (T T' : TypeId) (x y : Value) (h : T ≠ T') : (binOp .eql 20 (.iface T x) (.iface T' y)).run Tryz.prog w = .ok (.bool false) w := by
  have hh : (Op.equalIn 10000 20 (.iface T x) (.iface T' y)).run Tryz.prog w = .ok false w := by
    rw [Op.equalIn]
    simp [run_underlying Tryz.underlying20, h]
  simp only [binOp]
  simp [Op.equal, Op.maxDepth, hh]
theorem compFailure : (Tryz.prog.info? 227).map (·.comparable) = some true := by kernel_rfl
set_option maxRecDepth 100000 in
theorem eqFailure (a b : Int) (s t : ByteArray) : (binOp .eql 20 (.iface 227 (.agg #[.int .i64 a, .string s])) (.iface 227 (.agg #[.int .i64 b, .string t]))).run Tryz.prog w = .ok (.bool ((a == b) && (s.toList == t.toList))) w := by
  cases hi : Tryz.prog.info? 227 with
  | none => have := compFailure; rw [hi] at this; cases this
  | some i =>
    have hcc : i.comparable = true := by simpa [hi] using compFailure
    have u3 := Tryz.underlying2
    have u9 := Tryz.underlying9
    have hst : (Op.equalIn 9999 227 (.agg #[.int .i64 a, .string s]) (.agg #[.int .i64 b, .string t])).run Tryz.prog w = .ok ((a == b) && (s.toList == t.toList)) w := by
      have hS : Tryz.prog.underlying 227 = some (.struct (Tryz.prog.fieldsOf 227)) := by kernel_rfl
      rw [run_equalIn_struct w 9998 227 _ _ hS (by kernel_rfl)]
      simp only [Program.fieldsOf, Tryz.underlying227]
      go_simp
      by_cases h1 : a = b <;> by_cases h2 : s.toList = t.toList <;> simp [h1, h2]
    have h : (Op.equalIn 10000 20 (.iface 227 (.agg #[.int .i64 a, .string s])) (.iface 227 (.agg #[.int .i64 b, .string t]))).run Tryz.prog w = .ok ((a == b) && (s.toList == t.toList)) w := by
      rw [Op.equalIn]
      simp [run_underlying Tryz.underlying20, typeInfo, hi, hcc, hst]
    simp only [binOp]
    simp [Op.equal, Op.maxDepth, h]
theorem compBox : (Tryz.prog.info? 228).map (·.comparable) = some true := by kernel_rfl
theorem sizeBox : (Tryz.prog.info? 230).map (·.size) = some 2 := by kernel_rfl
theorem eqBox (a b : Nat) {ca cb : Array Value} (ha : Blk w a 230 ca) (hb : Blk w b 230 cb) :
    (binOp .eql 20 (.iface 228 (.pointer (some ⟨a, 0, none⟩))) (.iface 228 (.pointer (some ⟨b, 0, none⟩)))).run Tryz.prog w = .ok (.bool (a == b)) w := by
  cases hi : Tryz.prog.info? 228 with
  | none => have := compBox; rw [hi] at this; cases this
  | some i =>
    have hcc : i.comparable = true := by simpa [hi] using compBox
    cases hj : Tryz.prog.info? 230 with
    | none => have := sizeBox; rw [hj] at this; cases this
    | some j =>
      have hz : j.size ≠ 0 := by
        have : j.size = 2 := by simpa [hj] using sizeBox
        omega
      by_cases h : a = b
      · subst h
        rw [run_eql_iface_ptr_same w _ Tryz.underlying20 Tryz.underlying228 hi hcc hj]
        simp
      · rw [run_eql_iface_ptr_other (a := ⟨a, 0, none⟩) (b := ⟨b, 0, none⟩) w Tryz.underlying20 Tryz.underlying228 hi hcc hj hz (fun e => h (Addr.mk.inj e).1) ha hb]
        simp [h]
end
theorem beqInt (a b : Int) : (a == b) = decide (a = b) := by by_cases h : a = b <;> simp [h]
theorem beqString (s t : ByteArray) : (s == t) = decide (s = t) := by
  have := MapKept.bytes_beq s t
  by_cases h : s = t
  · rw [decide_eq_true h]; exact this.2 h
  · rw [decide_eq_false h]
    cases e : s == t
    · rfl
    · exact absurd (this.1 e) h
theorem listString (s t : ByteArray) : (s.toList == t.toList) = decide (s = t) := by
  by_cases h : s = t
  · subst h; simp
  · rw [decide_eq_false h]
    simp only [beq_eq_false_iff_ne, ne_eq]
    exact fun e => h (toList_inj e)
theorem empty_of_size {t : ByteArray} (h : t.size = 0) : t = ⟨#[]⟩ := by
  cases t with
  | mk a => 
    have : a.size = 0 := h
    rw [Array.size_eq_zero_iff.1 this]
theorem D.right_head {d : D} (h : d.right = true) : d.head = true := by
  cases d
  rw [D.right, Bool.and_eq_true] at h
  exact h.1
theorem D.head_spec {d : D} (h : d.head = true) : 0 ≤ d.k ∧ d.k ≤ 13 ∧ (d.k = 6 → d.i = 0 ∨ d.i = 1) ∧ (d.k = 11 → 1 ≤ d.i) ∧ (D.hasI d.k = true ∨ d.i = 0) ∧ (d.k = 3 ∨ d.b = 0) ∧
    (D.hasT d.k = true ∨ d.t = ⟨#[]⟩) ∧ (d.k = 8 ∨ d.l.length = if d.k = 9 then 2 else if d.k = 11 then 1 else 0) := by
  obtain ⟨h1, h2, h3, h4, h5, h6, h7, h8, _⟩ := of_decide_eq_true h
  exact ⟨h1, h2, h3, h4, h5, h6, h7.imp id empty_of_size, h8⟩
theorem snd_inj {m : List (Int × Nat)} : (m.map (·.1)).Nodup → ∀ {n : Int} {g g' : Nat}, (n, g) ∈ m → (n, g') ∈ m → g = g' := by
  induction m with
  | nil => intro _ _ _ _ h; simp at h
  | cons x m ih =>
    intro hn n g g' h1 h2
    rw [List.map_cons, List.nodup_cons] at hn
    rcases List.mem_cons.1 h1 with rfl | h1
    · rcases List.mem_cons.1 h2 with h2 | h2
      · injection h2 with _ h2; exact h2.symm
      · exact absurd (List.mem_map.2 ⟨_, h2, rfl⟩) hn.1
    · rcases List.mem_cons.1 h2 with h2 | h2
      · exact absurd (h2 ▸ List.mem_map.2 ⟨_, h1, rfl⟩) hn.1
      · exact ih hn.2 h1 h2
theorem fst_inj {m : List (Int × Nat)} : (m.map (·.2)).Nodup → ∀ {n n' : Int} {g : Nat}, (n, g) ∈ m → (n', g) ∈ m → n = n' := by
  induction m with
  | nil => intro _ _ _ _ h; simp at h
  | cons x m ih =>
    intro hn n n' g h1 h2
    rw [List.map_cons, List.nodup_cons] at hn
    rcases List.mem_cons.1 h1 with rfl | h1
    · rcases List.mem_cons.1 h2 with h2 | h2
      · injection h2 with h2 _; exact h2.symm
      · exact absurd (List.mem_map.2 ⟨_, h2, rfl⟩) hn.1
    · rcases List.mem_cons.1 h2 with h2 | h2
      · exact absurd (h2 ▸ List.mem_map.2 ⟨_, h1, rfl⟩) hn.1
      · exact ih hn.2 h1 h2

/-- what == of two such values comes to -/
def EqRun (w : World) (x y : Value) (r : Bool × Bool) : Prop :=
  if r.2 then ∃ s, (binOp .eql 20 x y).run Tryz.prog w = .halt (.panic (.iface Tryz.prog.rt.errorString (strVal s))) w else (binOp .eql 20 x y).run Tryz.prog w = .ok (.bool r.1) w
theorem D.req_ne {a b : D} (h : a.k ≠ b.k) : a.req b = (false, false) := by
  cases a
  rw [D.req]
  exact if_pos h
theorem dvType {m : List (Int × Nat)} {a : D} {v : Value} (h : DV m a v) : (a.k = 0 ∧ v = .nilIface) ∨ ∃ T x, v = .iface T x ∧ (T = 214 ∧ a.k = 1 ∨ T = 215 ∧ a.k = 2 ∨ T = 216 ∧ a.k = 3 ∨ T = 217 ∧ a.k = 4 ∨ T = 218 ∧ a.k = 5 ∨
    T = 219 ∧ a.k = 6 ∨ T = 220 ∧ a.k = 7 ∨ T = 222 ∧ a.k = 8 ∨ T = 225 ∧ a.k = 9 ∨ T = 227 ∧ a.k = 10 ∨ T = 228 ∧ (a.k = 11 ∧ (∃ g, x = .pointer (some ⟨g, 0, none⟩)) ∨ a.k = 12 ∧ x = .pointer none) ∨ T = 232 ∧ a.k = 13) := by
  cases h
  case nil => exact .inl ⟨rfl, rfl⟩
  all_goals exact .inr ⟨_, _, rfl, by simp⟩
theorem eqv_other {w : World} {m : List (Int × Nat)} {a b : D} {va vb : Value} (ha : DV m a va) (hb : DV m b vb) (hk : a.k ≠ b.k) : EqRun w va vb (false, false) := by
  show (binOp .eql 20 va vb).run Tryz.prog w = .ok (.bool false) w
  rcases dvType ha with ⟨h1, rfl⟩ | ⟨T, x, rfl, hT⟩
  · rcases dvType hb with ⟨h2, rfl⟩ | ⟨T', y, rfl, hT'⟩
    · omega
    · exact eqNilSome w T' y
  · rcases dvType hb with ⟨h2, rfl⟩ | ⟨T', y, rfl, hT'⟩
    · exact eqSomeNil w T x
    · by_cases hb : a.k = 11 ∧ b.k = 12
      · have h1 : T = 228 ∧ ∃ g, x = .pointer (some ⟨g, 0, none⟩) := by
          rcases hT with h | h | h | h | h | h | h | h | h | h | ⟨h, h'⟩ | h
          case inr.inr.inr.inr.inr.inr.inr.inr.inr.inr.inl => exact ⟨h, h'.elim (·.2) (fun h => by omega)⟩
          all_goals (exfalso; omega)
        have h2 : T' = 228 ∧ y = .pointer none := by
          rcases hT' with h | h | h | h | h | h | h | h | h | h | ⟨h, h'⟩ | h
          case inr.inr.inr.inr.inr.inr.inr.inr.inr.inr.inl => exact ⟨h, h'.elim (fun h => by omega) (·.2)⟩
          all_goals (exfalso; omega)
        obtain ⟨rfl, g, rfl⟩ := h1
        obtain ⟨rfl, rfl⟩ := h2
        exact eqBoxNo w g
      · by_cases hc : a.k = 12 ∧ b.k = 11
        · have h1 : T = 228 ∧ x = .pointer none := by
            rcases hT with h | h | h | h | h | h | h | h | h | h | ⟨h, h'⟩ | h
            case inr.inr.inr.inr.inr.inr.inr.inr.inr.inr.inl => exact ⟨h, h'.elim (fun h => by omega) (·.2)⟩
            all_goals (exfalso; omega)
          have h2 : T' = 228 ∧ ∃ g, y = .pointer (some ⟨g, 0, none⟩) := by
            rcases hT' with h | h | h | h | h | h | h | h | h | h | ⟨h, h'⟩ | h
            case inr.inr.inr.inr.inr.inr.inr.inr.inr.inr.inl => exact ⟨h, h'.elim (·.2) (fun h => by omega)⟩
            all_goals (exfalso; omega)
          obtain ⟨rfl, rfl⟩ := h1
          obtain ⟨rfl, g, rfl⟩ := h2
          exact eqNoBoxSome w g
        · refine eqOther w T T' x y fun hTT => ?_
          subst hTT
          rcases hT with ⟨rfl, h⟩ | ⟨rfl, h⟩ | ⟨rfl, h⟩ | ⟨rfl, h⟩ | ⟨rfl, h⟩ | ⟨rfl, h⟩ | ⟨rfl, h⟩ | ⟨rfl, h⟩ | ⟨rfl, h⟩ | ⟨rfl, h⟩ | ⟨rfl, h⟩ | ⟨rfl, h⟩ <;> simp at hT' <;> omega
theorem D.req_plain {a b : D} (h : a.k = b.k) (h3 : a.k ≠ 3) (h7 : a.k ≠ 7) (h8 : a.k ≠ 8) (h9 : a.k ≠ 9) : a.req b = (decide (a.i = b.i) && decide (a.t = b.t), false) := by
  cases a
  simp only [D.k_mk] at h h3 h7 h8 h9
  rw [D.req, if_neg (by simpa using h), if_neg (by omega), if_neg h3, if_neg h9]
  rfl
theorem EqRun.ok {w : World} {x y : Value} {r : Bool × Bool} {b : Bool} (hr : r = (b, false)) (h : (binOp .eql 20 x y).run Tryz.prog w = .ok (.bool b) w) : EqRun w x y r := by
  subst hr; exact h
theorem EqRun.bad {w : World} {x y : Value} {r : Bool × Bool} (hr : r = (false, true)) (s : String) (h : (binOp .eql 20 x y).run Tryz.prog w = .halt (.panic (.iface Tryz.prog.rt.errorString (strVal s))) w) : EqRun w x y r := by
  subst hr; exact ⟨s, h⟩
theorem eqv_run {B : Nat} {w : World} {M : Nat} {m : List (Int × Nat)} (hx : Boxes B w M m) {a b : D} {va vb : Value} (ha : DV m a va) (hb : DV m b vb) (ra : a.right = true) (rb : b.right = true) (h9 : ¬ (a.k = 9 ∧ b.k = 9)) : EqRun w va vb (a.req b) := by
  by_cases hk : a.k = b.k
  · have sa := D.head_spec (D.right_head ra)
    have sb := D.head_spec (D.right_head rb)
    obtain ⟨-, -, sa3, -, sa5, -, sa7, -⟩ := sa
    obtain ⟨-, -, sb3, -, sb5, -, sb7, -⟩ := sb
    cases ha <;> cases hb <;> simp only [D.k_mk, D.i_mk, D.t_mk] at hk sa3 sa5 sa7 sb3 sb5 sb7 h9 <;> first
      | (exfalso; omega)
      | skip
    case nil.nil =>
      simp [D.hasI, D.hasT] at sa5 sa7 sb5 sb7
      subst sa5 sa7 sb5 sb7
      exact .ok (D.req_plain rfl (by simp) (by simp) (by simp) (by simp)) ((eqNil w).trans (by simp))
    case number.number =>
      simp [D.hasT] at sa7 sb7
      subst sa7 sb7
      exact .ok (D.req_plain rfl (by simp) (by simp) (by simp) (by simp)) ((eqNumber w _ (.inl rfl) _ _).trans (by simp [beqInt] <;> congr))
    case key.key =>
      simp [D.hasT] at sa7 sb7
      subst sa7 sb7
      exact .ok (D.req_plain rfl (by simp) (by simp) (by simp) (by simp)) ((eqNumber w _ (.inr rfl) _ _).trans (by simp [beqInt] <;> congr))
    case float.float => exact .ok (by rw [D.req]; rfl) (eqFloat w _ _)
    case text.text =>
      simp [D.hasI] at sa5 sb5
      subst sa5 sb5
      exact .ok (D.req_plain rfl (by simp) (by simp) (by simp) (by simp)) ((eqString w _ (.inl rfl) _ _).trans (by simp [beqString] <;> congr))
    case name.name =>
      simp [D.hasI] at sa5 sb5
      subst sa5 sb5
      exact .ok (D.req_plain rfl (by simp) (by simp) (by simp) (by simp)) ((eqString w _ (.inr rfl) _ _).trans (by simp [beqString] <;> congr))
    case boolean.boolean =>
      simp [D.hasT] at sa7 sb7
      subst sa7 sb7
      have h1 := sa3 trivial
      have h2 := sb3 trivial
      refine .ok (D.req_plain rfl (by simp) (by simp) (by simp) (by simp)) ((eqBoolean w _ _).trans ?_)
      rcases h1 with h1 | h1 <;> rcases h2 with h2 | h2 <;> simp [h1, h2]
    case octets.octets => exact .bad (by rw [D.req]; rfl) _ (eqOctets w _ _)
    case list.list => exact .bad (by rw [D.req]; rfl) _ (eqList w _ _)
    case failure.failure => exact .ok (D.req_plain rfl (by simp) (by simp) (by simp) (by simp)) ((eqFailure w _ _ _ _).trans (by simp [beqInt, listString] <;> congr))
    case box.box =>
      rename_i i b t A c l g h1 i' b' t' A' c' l' g' h2
      simp [D.hasT] at sa7 sb7
      subst sa7 sb7
      obtain ⟨_, x1, c1⟩ := hx.box _ _ h1
      obtain ⟨_, x2, c2⟩ := hx.box _ _ h2
      refine .ok (D.req_plain rfl (by simp) (by simp) (by simp) (by simp)) ((eqBox w _ _ c1 c2).trans ?_)
      have h : (g == g') = decide (i = i') := by
        by_cases h : i = i'
        · subst h
          have := snd_inj hx.nums h1 h2
          subst this
          simp
        · rw [decide_eq_false h]
          simp only [beq_eq_false_iff_ne, ne_eq]
          rintro rfl
          exact h (fst_inj hx.blks h1 h2)
      rw [h]
      simp <;> congr
    case noBox.noBox =>
      simp [D.hasI, D.hasT] at sa5 sa7 sb5 sb7
      subst sa5 sa7 sb5 sb7
      exact .ok (D.req_plain rfl (by simp) (by simp) (by simp) (by simp)) ((eqNoBox w).trans (by simp))
    case unit.unit =>
      simp [D.hasI, D.hasT] at sa5 sa7 sb5 sb7
      subst sa5 sa7 sb5 sb7
      exact .ok (D.req_plain rfl (by simp) (by simp) (by simp) (by simp)) ((eqUnit w).trans (by simp))
    case pair.pair => exact absurd ⟨trivial, trivial⟩ h9
  · rw [D.req_ne hk]
    exact eqv_other ha hb hk
end Go.Proofs.YtbhmeapnmpgggaaGreatDoor
/- datum's value of a Datum that holds no other: the walk. Condition: the Datum is right. -/
namespace Go.Proofs.YtbhmeapnmpgggaaGreatDoor
open Go.RowKit Go.Joins

def LeafD (m : List (Int × Nat)) (d : D) (w : World) (e : Ending) (w' : World) : Prop := ∃ v, e = .returned v ∧ DV m d v ∧ Below w.heap.size w w'
theorem LeafD.mk {m : List (Int × Nat)} {d : D} {w w' : World} {v : Value} (h : DV m d v) (hb : Below w.heap.size w w') : LeafD m d w (.returned v) w' := ⟨v, rfl, h, hb⟩

set_option maxHeartbeats 4000000 in
set_option maxRecDepth 100000 in
theorem valueLeaf (d : D) (m : List (Int × Nat)) (M : Nat) (w : World) (hr : d.right = true) (h8 : d.k ≠ 8) (h9 : d.k ≠ 9) (h11 : d.k ≠ 11) :
    Calls Tryz.prog 99 #[.map (some M), d.v] w (LeafD m d w) := by
  obtain ⟨h1, h2, h6, _, h4, h5, h7, _⟩ := D.head_spec (D.right_head hr)
  have hf := fromBits
  have hcv := fun w => Lib.run_convert_string_bytes (P := Tryz.prog) w 9 220 5 d.t Tryz.underlying9 Tryz.underlying220 Tryz.underlying5
  obtain ⟨k, i, b, t, A, c, l⟩ := d
  simp only [D.k_mk, D.i_mk, D.b_mk, D.t_mk] at h1 h2 h4 h5 h6 h7 h8 h9 h11 hcv
  have hal := Lib.hid ((Below.refl w.heap.size w).alloc (Nat.le_refl _) (.cells #[.int .i64 k, .int .i64 i, .int .u64 b, .string t, .slice A l.length c] 25))
  have hk : k = 0 ∨ k = 1 ∨ k = 2 ∨ k = 3 ∨ k = 4 ∨ k = 5 ∨ k = 6 ∨ k = 7 ∨ k = 10 ∨ k = 12 ∨ k = 13 := by omega
  clear h1 h2 h4 h5 h6 h7 h8 h9 h11 hr
  generalize hL : l.length = L at *
  simp only [D.v, D.cs, D.k_mk, D.i_mk, D.b_mk, D.t_mk, D.A_mk, D.c_mk, D.l_mk, hL]
  clear hL
  rcases hk with rfl | rfl | rfl | rfl | rfl | rfl | rfl | rfl | rfl | rfl | rfl
  all_goals
    go_enter Tryz.func99, Tryz.ntmps99
    go_wp2_with fail
  · go_ret
    exact .mk (.nil _ _ _ _ _ _) hal.out
  · go_ret
    exact .mk (.number _ _ _ _ _ _) hal.out
  · go_ret
    exact .mk (.key _ _ _ _ _ _) hal.out
  · go_ret
    exact .mk (.float _ _ _ _ _ _) hal.out
  · go_ret
    exact .mk (.text _ _ _ _ _ _) hal.out
  · go_ret
    exact .mk (.name _ _ _ _ _ _) hal.out
  · go_ret
    exact .mk (.boolean _ _ _ _ _ _) hal.out
  · go_ret
    exact .mk (.octets _ _ _ _ _ _ _ _ _) (hal.out.trans (below_bytesWorld _ _ _ _ (by simp)))
  · go_ret
    exact .mk (.failure _ _ _ _ _ _) hal.out
  · go_ret
    exact .mk (.noBox _ _ _ _ _ _) hal.out
  · go_ret
    exact .mk (.unit _ _ _ _ _ _) hal.out
end Go.Proofs.YtbhmeapnmpgggaaGreatDoor
/- datum's value and values: the walks. Conditions: the tree lies in the world, below the boxes, and is right. -/
namespace Go.Proofs.YtbhmeapnmpgggaaGreatDoor
open Go.RowKit Go.Joins

theorem infoAny : (Tryz.prog.info? 20).map (fun i => (i.zero, i.size, i.bytes)) = some (some .nilIface, 1, 16) := by kernel_rfl
theorem own_kept {w w' : World} {bs : List Nat} {B e size n : Nat} {v : Value} {xs : List Value} (h : w.ownsRow B e size v n xs) (hb : Kept bs w w') (hn : ∀ g cs, w.heap[g]? = some (.cells cs e (0, 0)) → g ∉ bs) : w'.ownsRow B e size v n xs := by
  refine ⟨h.1, ?_⟩
  rcases h.2 with h2 | ⟨g, cap, cur, rfl, h3, h4, h5⟩
  · exact .inl h2
  · refine .inr ⟨g, cap, cur, rfl, h3, ?_, h5⟩
    have hlt : g < w.heap.size := by
      rcases Nat.lt_or_ge g w.heap.size with a | a
      · exact a
      · rw [Array.getElem?_eq_none a] at h4; cases h4
    exact (hb.block g hlt (hn g cur h4)).trans h4
theorem Kept.grown {bs : List Nat} {a w w' : World} {row : Option Nat} (h : Kept bs a w) (hg : w.grownBy w' row) (hr : ∀ k, row = some k → a.heap.size ≤ k) : Kept bs a w' :=
  ⟨hg.os.trans h.os, hg.tape.trans h.tape, hg.output.trans h.output, Nat.le_trans h.size hg.size, fun i hi hn => (hg.block i (Nat.lt_of_lt_of_le hi h.size) (fun e => by have := hr i e.symm; omega)).trans (h.block i hi hn)⟩

def bsOf (M : Nat) (m : List (Int × Nat)) : List Nat := M :: m.map (·.2)
theorem Boxes.turn {B : Nat} {w w' : World} {M : Nat} {m : List (Int × Nat)} (h : Boxes B w M m) (ht : ∀ k, k ∈ bsOf M m → k < w.heap.size → w'.heap[k]? = w.heap[k]?) : Boxes B w' M m := by
  have hl : M < w.heap.size := by
    rcases Nat.lt_or_ge M w.heap.size with a | a
    · exact a
    · have := h.mp; rw [Array.getElem?_eq_none a] at this; cases this
  refine ⟨h.low, (ht M (List.mem_cons_self ..) hl).trans h.mp, fun n g hg => ?_, h.nums, h.blks⟩
  obtain ⟨h1, x, h2⟩ := h.box n g hg
  exact ⟨h1, x, (ht g (List.mem_cons_of_mem _ (List.mem_map.2 ⟨_, hg, rfl⟩)) h2.lt).trans h2⟩
theorem Boxes.below {B : Nat} {w w' : World} {M : Nat} {m : List (Int × Nat)} (h : Boxes B w M m) (hb : Below w.heap.size w w') : Boxes B w' M m := h.turn fun k _ hk => hb.block k hk
theorem Boxes.lt {B : Nat} {w : World} {M : Nat} {m : List (Int × Nat)} (h : Boxes B w M m) : ∀ k ∈ bsOf M m, k < w.heap.size := by
  intro k hk
  rcases List.mem_cons.1 hk with rfl | hk
  · rcases Nat.lt_or_ge k w.heap.size with a | a
    · exact a
    · have := h.mp; rw [Array.getElem?_eq_none a] at this; cases this
  · obtain ⟨⟨n, g⟩, hg, rfl⟩ := List.mem_map.1 hk
    obtain ⟨_, x, h2⟩ := h.box n g hg
    exact h2.lt
theorem Boxes.ge {B : Nat} {w : World} {M : Nat} {m : List (Int × Nat)} (h : Boxes B w M m) : ∀ k ∈ bsOf M m, B ≤ k := by
  intro k hk
  rcases List.mem_cons.1 hk with rfl | hk
  · exact h.low
  · obtain ⟨⟨n, g⟩, hg, rfl⟩ := List.mem_map.1 hk
    exact (h.box n g hg).1
/-- no row of interface values is one of the boxes' blocks -/
theorem Boxes.apart {B : Nat} {w : World} {M : Nat} {m : List (Int × Nat)} (h : Boxes B w M m) {t : TypeId} (ht : t ≠ 230) {g : Nat} {cs : Array Value} (hg : w.heap[g]? = some (.cells cs t (0, 0))) : g ∉ bsOf M m := by
  intro hk
  rcases List.mem_cons.1 hk with rfl | hk
  · have := h.mp; rw [hg] at this; cases this
  · obtain ⟨⟨n, g'⟩, hg', rfl⟩ := List.mem_map.1 hk
    obtain ⟨_, x, h2⟩ := h.box n g' hg'
    unfold Blk at h2
    rw [hg] at h2
    simp at h2
    exact ht h2.2
theorem Boxes.store {B : Nat} {w : World} {M : Nat} {m : List (Int × Nat)} (h : Boxes B w M m) {n : Int} {g : Nat} (hg : (n, g) ∈ m) (u : Value) : Boxes B (w.setCell ⟨g, 1, none⟩ u) M m := by
  obtain ⟨_, x0, hb⟩ := h.box n g hg
  have hM : M ≠ g := by
    rintro rfl
    have := h.mp
    unfold Blk at hb
    rw [hb] at this
    cases this
  refine ⟨h.low, (Below.heap_setCell w ⟨g, 1, none⟩ u M hM).trans h.mp, fun n' g' hg' => ?_, h.nums, h.blks⟩
  obtain ⟨h1, x, h2⟩ := h.box n' g' hg'
  by_cases e : g' = g
  · subst e
    exact ⟨h1, u, by have := h2.set_ 1 u; simpa using this⟩
  · exact ⟨h1, x, h2.far e u⟩

/-- what value does -/
def ValueD (B M : Nat) (m : List (Int × Nat)) (d : D) (w : World) (e : Ending) (w' : World) : Prop :=
  ∃ v m2, e = .returned v ∧ (∀ x ∈ m2, w.heap.size ≤ x.2) ∧ Boxes B w' M (m ++ m2) ∧ DV (m ++ m2) d v ∧ Kept (bsOf M m) w w'
/-- what values does -/
def ValuesD (B M : Nat) (m : List (Int × Nat)) (w : World) (e : Ending) (w' : World) : Prop :=
  ∃ a n k m2, e = .returned (.slice a n k) ∧ (∀ x ∈ m2, w.heap.size ≤ x.2) ∧ Boxes B w' M (m ++ m2) ∧ Kept (bsOf M m) w w'
theorem kept_app {M : Nat} {m m2 : List (Int × Nat)} {a w w' : World} (h1 : Kept (bsOf M m) a w) (h2 : Kept (bsOf M (m ++ m2)) w w') (hm : ∀ x ∈ m2, a.heap.size ≤ x.2) : Kept (bsOf M m) a w' :=
  ⟨h2.os.trans h1.os, h2.tape.trans h1.tape, h2.output.trans h1.output, Nat.le_trans h1.size h2.size, fun i hi hn => (h2.block i (Nat.lt_of_lt_of_le hi h1.size) (fun hm2 => by
    unfold bsOf at hm2 hn
    rw [List.map_append, ← List.cons_append] at hm2
    rcases List.mem_append.1 hm2 with h | h
    · exact hn h
    · obtain ⟨x, hx, rfl⟩ := List.mem_map.1 h
      have := hm x hx
      omega)).trans (h1.block i hi hn)⟩
theorem kept_new {M : Nat} {m : List (Int × Nat)} {a w : World} (h : Below a.heap.size a w) : Kept (bsOf M m) a w := Kept.of_below h _

/-- one round of values -/
theorem values_step {B M : Nat} {m m2 : List (Int × Nat)} {w wr w1 w2 : World} {j : Nat} {s s' v : Value} {vs : List Value} {W : World} {o2 : Obj} {m3 : List (Int × Nat)}
    (hk : Kept (bsOf M m) w wr) (hm2 : ∀ x ∈ m2, w.heap.size ≤ x.2) (hown : wr.ownsRow w.heap.size 20 1 s j vs) (hW : Below wr.heap.size wr W)
    (hx : Boxes B wr M (m ++ m2)) (h3 : ∀ x ∈ m3, W.heap.size ≤ x.2) (hx1 : Boxes B w1 M (m ++ m2 ++ m3)) (hk1 : Kept (bsOf M (m ++ m2)) W w1) :
    (w1.alloc o2).ownsRow w.heap.size 20 1 s j vs ∧ (w2.ownsRow w.heap.size 20 1 s' (j + 1) (vs ++ [v]) → (w1.alloc o2).grownBy w2 s.ownBlock → Kept (bsOf M m) w w2 ∧ (∀ x ∈ m2 ++ m3, w.heap.size ≤ x.2) ∧ Boxes B w2 M (m ++ (m2 ++ m3)) ∧ w2.ownsRow w.heap.size 20 1 s' (j + 1) (vs ++ [v])) := by
  have hA : Boxes B W M (m ++ m2) := hx.below hW
  have hownW : W.ownsRow w.heap.size 20 1 s j vs := own_kept hown (kept_new (M := M) (m := m ++ m2) hW) (fun g cs hg => hx.apart (by decide) hg)
  have hown1 : w1.ownsRow w.heap.size 20 1 s j vs := own_kept hownW hk1 (fun g cs hg => hA.apart (by decide) hg)
  have hownA := hown1.alloc o2
  refine ⟨hownA, fun hown2 hg => ?_⟩
  have hkW : Kept (bsOf M m) w W := hk.trans (kept_new hW)
  have hk1' : Kept (bsOf M m) w w1 := kept_app hkW hk1 hm2
  have hk2 : Kept (bsOf M m) w (w1.alloc o2) := hk1'.alloc o2
  have hlt := fun k h => (hownA.lt k h).1
  refine ⟨hk2.grown hg hlt, fun x hx => ?_, ?_, hown2⟩
  · rcases List.mem_append.1 hx with h | h
    · exact hm2 x h
    · exact Nat.le_trans hkW.size (h3 x h)
  · rw [← List.append_assoc]
    have hx2 := hx1.below ((Below.refl w1.heap.size w1).alloc (Nat.le_refl _) o2)
    refine hx2.turn fun k hk' hl => hg.block k hl fun e => ?_
    rcases hownA.2 with ⟨rfl, _⟩ | ⟨g, cap, cur, rfl, _, h4, _⟩
    · simp [Value.ownBlock] at e
    · simp [Value.ownBlock] at e
      subst e
      exact hx2.apart (by decide) h4 hk'
end Go.Proofs.YtbhmeapnmpgggaaGreatDoor
/- datum's values: the walk, of a list whose elements' value is given. Conditions: the tree lies in the world, below the boxes, and is right. -/
namespace Go.Proofs.YtbhmeapnmpgggaaGreatDoor
open Go.RowKit Go.Joins

def ValueIH (n : Nat) : Prop := ∀ (d : D) (w : World) (B M : Nat) (m : List (Int × Nat)), d.size ≤ n → d.In w → d.Lo B → d.right = true → Boxes B w M m → B ≤ w.heap.size →
  Calls Tryz.prog 99 #[.map (some M), d.v] w (ValueD B M m d w)
theorem DV.one {m : List (Int × Nat)} {d : D} {v : Value} (h : DV m d v) : v.oneCell' = true := by cases h <;> rfl
theorem DV.cells {m : List (Int × Nat)} {d : D} {v : Value} (h : DV m d v) : v.cells = #[v] := by cases h <;> rfl
theorem DV.slice1 {m : List (Int × Nat)} {d : D} {v : Value} (h : DV m d v) : ∀ w', (Instr.buildSlice 221 1 #[(0, v)]).run Tryz.prog w' = .ok (.slice (some ⟨w'.heap.size, 0, none⟩) 1 1) (w'.alloc (.cells #[v] 20)) := by
  intro w'
  cases h <;> kernel_rfl

set_option maxHeartbeats 2000000 in
set_option maxRecDepth 100000 in
theorem values_any {n : Nat} (ih : ValueIH n) (l : List D) (A : Option Addr) (c : Nat) (w : World) (B M : Nat) (m : List (Int × Nat)) (hsz : ∀ x ∈ l, x.size ≤ n) (hl : l.length ≤ 4096)
    (hin : D.InL w A 0 l) (hlo : D.LoL B A l) (hr : D.rightL l = true) (hx : Boxes B w M m) (hB : B ≤ w.heap.size) :
    Calls Tryz.prog 118 #[.map (some M), .slice A l.length c] w (ValuesD B M m w) := by
  have hr' : ∀ (l : List D), D.rightL l = true → ∀ x ∈ l, x.right = true := by
    intro l
    induction l with
    | nil => intro _ x hx; simp at hx
    | cons y l ih => intro h x hx; rw [D.rightL, Bool.and_eq_true] at h; rcases List.mem_cons.1 hx with rfl | hx; exact h.1; exact ih h.2 x hx
  have HA := Lib.hid (show ∀ q x, l[q]? = some x → ∀ wr, Below B w wr → (∃ ad, A = some ad ∧ At wr (ad.add (q * 5)) x.cs) ∧ x.In wr ∧ x.Lo B ∧ x.size ≤ n ∧ x.right = true from fun q x hq wr hb => by
    obtain ⟨⟨ad, e, hat⟩, hi⟩ := hin.at_ hq
    obtain ⟨h1, h2⟩ := hlo.at_ hq
    rw [Nat.zero_add] at hat
    exact ⟨⟨ad, e, hat.below' (by rw [block_of_add]; exact h1 ad e) hb⟩, hi.below' hb h2, h2, hsz x (List.mem_of_getElem? hq), hr' l hr x (List.mem_of_getElem? hq)⟩)
  have Hih := Lib.hid ih
  have Hx := Lib.hid hx
  have hlow := hx.ge
  have Hlow := Lib.hid hlow
  obtain ⟨i0, hi, hz0, hz1, hz2⟩ := info_parts infoAny
  clear hsz hin hlo hr hr' ih hx hlow
  go_enter Tryz.func118, Tryz.ntmps118
  go_wp2_with fail
  go_loopg [5, 10] l.length (fun gk s i wr => ∃ (j : Nat) (vs : List Value) (m2 : List (Int × Nat)), i = .int .i64 j ∧ j + gk = l.length ∧ Kept (bsOf M m) w wr ∧ (∀ x ∈ m2, w.heap.size ≤ x.2) ∧ Boxes B wr M (m ++ m2) ∧ wr.ownsRow w.heap.size 20 1 s j vs)
  case atStart => exact ⟨0, [], [], rfl, by omega, Kept.refl _ _, by simp, by simpa using Hx.out, World.ownsRow_nil _ _ _ _⟩
  case round =>
    obtain ⟨j, vs, m2, rfl, hj, hk, hm2, hx, hown⟩ := hrel
    by_cases hlt : j < l.length
    · obtain ⟨x, ex⟩ : ∃ x, l[j]? = some x := ⟨_, List.getElem?_eq_getElem hlt⟩
      have hbel : Below B w wr := hk.below hB Hlow.out
      obtain ⟨⟨ad, rfl, h1⟩, hxi, hxl, hxs, hxr⟩ := HA.out j x ex wr hbel
      obtain ⟨p0, p1, p2, p3, p4⟩ := h1.five
      have hwr : w.heap.size ≤ wr.heap.size := hk.size
      have hst := Lib.hid (fun w1 w2 s' v W o2 m3 h1 h2 h3 h4 => values_step (w1 := w1) (w2 := w2) (s' := s') (v := v) (W := W) (o2 := o2) (m3 := m3) hk hm2 hown h1 hx h2 h3 h4)
      have hcall := Lib.hid (fun W (hW : Below wr.heap.size wr W) => Hih.out x W B M (m ++ m2) hxs (hxi.below hW) hxl hxr (hx.below hW) (Nat.le_trans hB (Nat.le_trans hwr hW.size)))
      have Hr := Lib.hid (And.intro hk hown)
      clear hk hm2 hx hown hbel h1 hxi hxl hxs hxr ex HA Hih Hx
      simp only [D.v, D.cs] at hcall
      go_wp2_with fail
      have hW0 := (Below.refl wr.heap.size wr).alloc (Nat.le_refl _) (.cells #[Value.int .i64 x.k, .int .i64 x.i, .int .u64 x.b, .string x.t, .slice x.A x.l.length x.c] 25)
      refine (hcall.out _ hW0).mono ?_
      rintro en w1 ⟨v, m3, rfl, h3, hx1, hdv, hk1⟩
      have hst2 := Lib.hid (fun o2 w2 s' => hst.out w1 w2 s' v _ o2 m3 hW0 h3 hx1 hk1)
      have hz1' : w.heap.size ≤ w1.heap.size := Nat.le_trans hwr (Nat.le_trans hW0.size hk1.size)
      have hvc := hdv.cells
      unfold Value.cells at hvc
      have hvo := hdv.one
      have hOw := Lib.hid ((hst2.out (.cells #[v] 20) default default).1)
      clear hst hcall h3 hx1 hdv hk1 hW0 p0 p1 p2 p3 p4
      go_wp2_with (at_builtin; refine wpList_append_own _ rfl _ _ 221 rfl w.heap.size 20 i0 .nilIface 1 16 Tryz.underlying221 hi hz0 hz1 hz2 rfl (by decide) _ _ _ rfl hOw.out ⟨w1.heap.size, 0, none⟩ 1 1 [v] rfl rfl ?c1 ?c2 ?c3 ?c4 ?c5 ?_)
      case c1 =>
        intro i u hu
        match i, hu with
        | 0, hu => simp at hu; subst hu; simp [Addr.add, go_sem]
      case c2 => intro u hu; simp at hu; subst hu; exact hvo
      case c3 => unfold maxLen; omega
      case c4 => omega
      case c5 => simp; omega
      · intro s' w2 hown2 hg2 _
        have hw := Lib.hid ((hst2.out _ w2 s').2 hown2 hg2)
        clear hown2 hg2 hst2 hOw hvc Hr
        go_wp2_with fail
        go_roundg (gk - 1)
        case measure => omega
        case rel => exact ⟨j + 1, vs ++ [v], m2 ++ m3, by go_num, by omega, hw.out.1, hw.out.2.1, hw.out.2.2.1, hw.out.2.2.2⟩
    · have hj' : j = l.length := by omega
      subst hj'
      have Hw := Lib.hid (And.intro hown (And.intro hk (And.intro hm2 hx)))
      clear hown hk hm2 hx HA Hih Hx
      go_wp2_with fail
      go_ret
      rcases Hw.out.1.2 with ⟨rfl, _⟩ | ⟨g, cap, cur, rfl, _⟩
      · exact ⟨_, _, _, m2, rfl, Hw.out.2.2.1, Hw.out.2.2.2, Hw.out.2.1⟩
      · exact ⟨_, _, _, m2, rfl, Hw.out.2.2.1, Hw.out.2.2.2, Hw.out.2.1⟩
end Go.Proofs.YtbhmeapnmpgggaaGreatDoor
