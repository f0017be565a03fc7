/-
  Objects by their fields: what is filled in, what is foreign to a kind, what is wrong; digests. No condition.
-/
import Derived.Test.YtiepomeokhjcfaaGreatDoorVl
import Derived.Test.YtiepomeokhjcfaaGreatDoorLabG
namespace Go.Fl
open Go.Proofs Go.RowKit
set_option maxRecDepth 10000
set_option maxHeartbeats 4000000

structure Oj where
  kind : Int
  name : ByteArray
  ver : Int
  born : Int
  labs : List Lab
  rcpu : Int
  rmem : Int
  cord : Bool
  drain : Bool
  lost : Bool
  beat : Int
  dep : ByteArray
  set : ByteArray
  node : ByteArray
  phase : Int
  ready : Bool
  ending : Bool
  ncpu : Int
  nmem : Int
  image : ByteArray
  rise : Int
  fall : Int
  count : Int
  surge : Int
  slack : Int
  paused : Bool
  hash : Int
  sel : List Lab
  least : Int
  holder : ByteArray
  term : Int
  till : Int

abbrev bV (b : Bool) : V := .bd (b = true) inferInstance
/-- Its cells, with the slices of its lists. -/
abbrev ocs (o : Oj) (l s : V) : List V := [.int .i64 o.kind, .str o.name, .int .i64 o.ver, .int .i64 o.born, l, .int .i64 o.rcpu, .int .i64 o.rmem, bV o.cord, bV o.drain, bV o.lost, .int .i64 o.beat, .str o.dep, .str o.set, .str o.node, .int .i64 o.phase, bV o.ready, bV o.ending, .int .i64 o.ncpu, .int .i64 o.nmem, .str o.image,
  .int .i64 o.rise, .int .i64 o.fall, .int .i64 o.count, .int .i64 o.surge, .int .i64 o.slack, bV o.paused, .int .u64 o.hash, s, .int .i64 o.least, .str o.holder, .int .i64 o.term, .int .i64 o.till]
abbrev labV (L : List Lab) (a : Option Addr) (c : Nat) : V := .raw (.slice a L.length c)
/-- An object, with its lists at these places. -/
abbrev ov (o : Oj) (a : Option Addr) (c : Nat) (a' : Option Addr) (c' : Nat) : V := .agg (ocs o (labV o.labs a c) (labV o.sel a' c'))

/-! digests -/
def mixH (h c : Int) : Int := IntKind.u64.wrap (IntKind.u64.wrap (BitVec.ofInt IntKind.u64.bits h ^^^ BitVec.ofInt IntKind.u64.bits (IntKind.u64.wrap c)).toNat * 1099511628211)
def bytesH (h : Int) (l : List Int) : Int := l.foldl mixH h
def numR : Nat → Int → Int → Int
  | 0, h, _ => h
  | k + 1, h, v => numR k (mixH h (IntKind.u8.wrap v)) (v.fdiv (2 ^ 8))
def numH (h n : Int) : Int := numR 8 h (IntKind.u64.wrap n)
abbrev Fd := Int ⊕ ByteArray
def bytesI (s : ByteArray) : List Int := (tl s).map fun c => (c.toNat : Int)
def fieldH (h : Int) : Fd → Int
  | .inl n => numH h n
  | .inr s => bytesH (numH h s.size) (bytesI s)
def labH (h : Int) (x : Lab) : Int := ([.inr x.1, .inr x.2] : List Fd).foldl fieldH h
def templH (o : Oj) : Int := o.labs.foldl labH
  (([.inr o.image, .inl o.ncpu, .inl o.nmem, .inl o.rise, .inl o.fall, .inl o.labs.length] : List Fd).foldl fieldH 14695981039346656037)

/-! what is filled in -/
def or1 (x : Int) : Int := if x ≠ 0 then x else 1
def defO (o : Oj) : Oj :=
  if o.kind = 2 then { o with surge := if o.surge = 0 ∧ o.slack = 0 then 1 else o.surge, rise := or1 o.rise, fall := or1 o.fall }
  else if o.kind = 1 then { o with rise := or1 o.rise, fall := or1 o.fall }
  else if o.kind = 3 then { o with rise := or1 o.rise, fall := or1 o.fall, hash := if o.hash = 0 then templH { o with rise := or1 o.rise, fall := or1 o.fall } else o.hash }
  else o
theorem or1_or1 (x : Int) : or1 (or1 x) = or1 x := by
  unfold or1
  by_cases h : x = 0
  · subst h; rfl
  · simp [h]
theorem def_kind (o : Oj) : (defO o).kind = o.kind := by unfold defO; (repeat' split) <;> rfl
theorem def_labs (o : Oj) : (defO o).labs = o.labs := by unfold defO; (repeat' split) <;> rfl
theorem def_sel (o : Oj) : (defO o).sel = o.sel := by unfold defO; (repeat' split) <;> rfl
theorem def_def (o : Oj) : defO (defO o) = defO o := by
  by_cases h2 : o.kind = 2
  · have e : defO o = { o with surge := if o.surge = 0 ∧ o.slack = 0 then 1 else o.surge, rise := or1 o.rise, fall := or1 o.fall } := by unfold defO; rw [if_pos h2]
    rw [e]
    unfold defO
    simp only
    rw [if_pos h2, or1_or1, or1_or1]
    congr 1
    by_cases h : o.surge = 0 ∧ o.slack = 0
    · rw [if_pos h]; simp
    · rw [if_neg h, if_neg h]
  · by_cases h1 : o.kind = 1
    · have e : defO o = { o with rise := or1 o.rise, fall := or1 o.fall } := by unfold defO; rw [if_neg h2, if_pos h1]
      rw [e]
      unfold defO
      simp only
      rw [if_neg h2, if_pos h1, or1_or1, or1_or1]
    · by_cases h3 : o.kind = 3
      · have e : defO o = { o with rise := or1 o.rise, fall := or1 o.fall, hash := if o.hash = 0 then templH { o with rise := or1 o.rise, fall := or1 o.fall } else o.hash } := by unfold defO; rw [if_neg h2, if_neg h1, if_pos h3]
        rw [e]
        unfold defO
        simp only
        rw [if_neg h2, if_neg h1, if_pos h3, or1_or1, or1_or1]
        congr 1
        by_cases h : o.hash = 0
        · rw [if_pos h]
          by_cases h' : templH { o with rise := or1 o.rise, fall := or1 o.fall } = 0
          · rw [if_pos h']; rfl
          · rw [if_neg h']
        · rw [if_neg h, if_neg h]
      · have e : defO o = o := by unfold defO; rw [if_neg h2, if_neg h1, if_neg h3]
        rw [e, e]
theorem def_back (o : Oj) : { defO o with rise := o.rise, fall := o.fall, surge := o.surge, hash := o.hash } = o := by
  unfold defO; (repeat' split) <;> rfl

/-! are two alike? -/
def bareP (a b : Oj) : Prop := (a.kind = b.kind ∧ tl a.name = tl b.name ∧ a.ver = b.ver ∧ a.born = b.born ∧ (a.rcpu = b.rcpu ∧ a.rmem = b.rmem) ∧ (a.cord = b.cord ∧ a.drain = b.drain ∧ a.lost = b.lost) ∧ a.beat = b.beat) ∧
  (tl a.dep = tl b.dep ∧ tl a.set = tl b.set ∧ tl a.node = tl b.node ∧ a.phase = b.phase ∧ (a.ready = b.ready ∧ a.ending = b.ending) ∧ (a.ncpu = b.ncpu ∧ a.nmem = b.nmem) ∧ tl a.image = tl b.image ∧ a.rise = b.rise ∧ a.fall = b.fall) ∧
  (a.count = b.count ∧ a.surge = b.surge ∧ a.slack = b.slack ∧ a.paused = b.paused ∧ a.hash = b.hash ∧ a.least = b.least ∧ tl a.holder = tl b.holder ∧ a.term = b.term ∧ a.till = b.till)
instance (a b : Oj) : Decidable (bareP a b) := by unfold bareP; infer_instance
def sameP (a b : Oj) : Prop := bareP a b ∧ sameL a.labs b.labs = true ∧ sameL a.sel b.sel = true
instance (a b : Oj) : Decidable (sameP a b) := by unfold sameP; infer_instance
theorem same_id : ∀ L : List Lab, sameL L L = true
  | [] => rfl
  | x :: L => by simp [sameL, eqLab, same_id L]
theorem sameP_id (o : Oj) : sameP o o := by
  unfold sameP bareP
  simp [same_id]

/-! what is foreign to a kind -/
def base (o : Oj) : Oj := ⟨o.kind, o.name, o.ver, o.born, o.labs, 0, 0, false, false, false, 0, ⟨#[]⟩, ⟨#[]⟩, ⟨#[]⟩, 0, false, false, 0, 0, ⟨#[]⟩, 0, 0, 0, 0, 0, false, 0, [], 0, ⟨#[]⟩, 0, 0⟩
def ownO (o : Oj) : Oj :=
  if o.kind = 0 then { base o with rcpu := o.rcpu, rmem := o.rmem, cord := o.cord, drain := o.drain, lost := o.lost, beat := o.beat }
  else if o.kind = 4 then { base o with sel := o.sel, least := o.least }
  else if o.kind = 5 then { base o with labs := [], holder := o.holder, term := o.term, till := o.till }
  else if o.kind = 1 then { base o with dep := o.dep, set := o.set, node := o.node, phase := o.phase, ready := o.ready, ending := o.ending, ncpu := o.ncpu, nmem := o.nmem, image := o.image, rise := o.rise, fall := o.fall }
  else if o.kind = 2 then { base o with surge := o.surge, slack := o.slack, paused := o.paused, count := o.count, ncpu := o.ncpu, nmem := o.nmem, image := o.image, rise := o.rise, fall := o.fall }
  else if o.kind = 3 then { base o with dep := o.dep, hash := o.hash, count := o.count, ncpu := o.ncpu, nmem := o.nmem, image := o.image, rise := o.rise, fall := o.fall }
  else base o

/-! what is wrong -/
abbrev rightA (c m : Int) : Prop := 0 ≤ c ∧ c ≤ 1099511627776 ∧ 0 ≤ m ∧ m ≤ 1099511627776
instance (c m : Int) : Decidable (rightA c m) := by unfold rightA; infer_instance
abbrev inN (n low high : Int) : Prop := low ≤ n ∧ n ≤ high
instance (n low high : Int) : Decidable (inN n low high) := by unfold inN; infer_instance
def chkNode (o : Oj) : Int := if ¬ rightA o.rcpu o.rmem then 13 else if o.beat < 0 then 1 else 0
def chkBudget (o : Oj) : Int := if (chk o.sel).1 ≠ 0 then 12 else if ¬ inN o.least 0 64 then 1 else 0
def chkLease (o : Oj) : Int := if nameL (tl o.holder) = false then 8 else if o.term < 1 ∨ o.till < 0 then 1 else 0
def okS (o : Oj) : Prop :=
  if o.kind = 1 then (o.phase = 0 ∧ o.ready = false) ∨ (o.phase = 1 ∧ tl o.node ≠ [] ∧ ¬ (o.ready = true ∧ o.ending = true))
  else if o.kind = 2 then inN o.count 0 16 ∧ inN o.surge 0 16 ∧ inN o.slack 0 16 ∧ 0 < o.surge + o.slack
  else if o.kind = 3 then inN o.count 0 16 ∧ o.hash = templH o
  else inN o.count 0 16
instance (o : Oj) : Decidable (okS o) := by unfold okS; infer_instance
def chkRest (o : Oj) : Int := if ¬ rightA o.ncpu o.nmem then 13 else if ¬ (valueL (tl o.image) = true ∧ inN o.rise 1 8 ∧ inN o.fall 1 8) then 14 else if okS o then 0 else 14
def chkLikes (o : Oj) : Int :=
  if o.kind = 1 then (if nameL (tl o.set) = false ∨ (tl o.node ≠ [] ∧ nameL (tl o.node) = false) then 8 else if nameL (tl o.dep) = false then 8 else chkRest o)
  else if o.kind = 3 then (if nameL (tl o.dep) = false then 8 else chkRest o)
  else if o.kind = 2 then (if 20 < o.name.size then 8 else chkRest o)
  else chkRest o
def chkO (o : Oj) : Int :=
  if ¬ inN o.kind 0 5 then 11 else if nameL (tl o.name) = false then 8 else if o.born < 0 ∨ o.ver < o.born then 1 else if ¬ sameP o (ownO o) then 14 else if (chk o.labs).1 ≠ 0 then 12
  else if o.kind = 0 then chkNode o else if o.kind = 4 then chkBudget o else if o.kind = 5 then chkLease o else chkLikes o
def fresh (o : Oj) : Prop := ¬ (o.ver ≠ 0 ∨ o.born ≠ 0 ∨ o.lost = true ∨ o.beat ≠ 0 ∨ tl o.node ≠ [] ∨ o.phase ≠ 0 ∨ o.ready = true ∨ o.ending = true)
instance (o : Oj) : Decidable (fresh o) := by unfold fresh; infer_instance
def newO (o : Oj) : Int := if o.kind = 5 then 11 else if chkO (defO o) ≠ 0 then chkO (defO o) else if fresh o then 0 else 14
end Go.Fl
