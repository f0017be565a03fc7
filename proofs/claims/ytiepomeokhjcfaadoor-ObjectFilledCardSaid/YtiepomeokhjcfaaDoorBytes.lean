/-
  A text turned into bytes, in the reckoned walk. No condition.
-/
import Derived.Test.YtiepomeokhjcfaaDoorVl
import Derived.Lib.ConvBytes
namespace Go.Fl
open Go.Proofs Go.RowKit
set_option maxRecDepth 10000
set_option maxHeartbeats 4000000

def bytesV (s : ByteArray) : List Go.Value := (tl s).map fun c => Go.Value.int .u8 (c.toNat : Int)
theorem vcb {C : Cx} {l0 rest : List Oper} {k : List Item} {e : VEnv} {ho : List OB} {tl : Hs} {d : Nat} {ty : TypeId} {pos : String} {af : Array Edge} {src dst et : TypeId} {u : TypeDesc} {x : Operand} {s : ByteArray}
    (hd : Nat.blt d C.N = true) (hs : C.P.underlying src = some u) (hdst : C.P.underlying dst = some (.slice et)) (he : C.P.underlying et = some (.int .u8)) (hx : evV e x = some (.str s))
    (next : ∀ b cap o, (∀ (W0 w : World) (own : List Nat) (hs : Hs), (b, o) ∈ hs → St W0 own hs w → Reads w ⟨b, 0, none⟩ (bytesV s)) → Here C ((b, o) :: tl) (.ops l0 rest k) ((d, .raw (.slice (some ⟨b, 0, none⟩) s.size cap)) :: e) ho) :
    Here C tl (.ops l0 (⟨some d, .convert src dst x, ty, pos, af, none⟩ :: rest) k) e ho := by
  have e1 := ev_re hx
  simp only [V.val] at e1
  refine ⟨op_some (Φ := fun v' hs' => ∃ b cap o, (v' = .slice (some ⟨b, 0, none⟩) s.size cap ∧ hs' = (b, o) :: (rh ho ++ tl)) ∧ ∀ (W0 w : World) (own : List Nat) (hs : Hs), (b, o) ∈ hs → St W0 own hs w → Reads w ⟨b, 0, none⟩ (bytesV s)) hd (fun a w ok => ?_) ?_⟩
  · refine ⟨_, _, Lib.bytesWorld w et s, ?_, ?_, w.heap.size, grownCap w s.size 0 et, .cells (Lib.bytesCells w et s) et ((Lib.bytesCells w et s).size, (Lib.bytesCells w et s).size + 1), ⟨rfl, rfl⟩, ?_⟩
    · simp [execOp, ok.e.eval e1, Lib.run_convert_string_bytes w src dst et s hs hdst he]
    · exact St.more (w' := Lib.bytesWorld w et s) ok.st ⟨rfl, rfl, rfl, by rw [Lib.bytesWorld_size]; omega, fun k hk => Lib.bytesWorld_at_old w et s k hk⟩ (Nat.le_refl _) (Lib.bytesWorld_at_new w et s)
    · intro W0 w2 own hs2 hm hst
      have hb := hst.has _ hm
      refine reads_ix _ _ fun j v hj => ?_
      have hlt := (List.getElem?_eq_some_iff.1 hj).1
      have hlt2 : j < s.data.size := by simpa [bytesV, Fl.tl] using hlt
      simp only [World.cell?, hb, Option.isSome_none, Bool.false_eq_true, if_false, Nat.zero_add, Lib.bytesCells]
      rw [Array.getElem?_append_left (by simpa using hlt2)]
      simpa [bytesV, Fl.tl] using hj
  · rintro v hs' ⟨b, cap, o, ⟨rfl, rfl⟩, h⟩
    exact ops_st (fun w h => h.perm List.perm_middle) (next b cap o h).go
end Go.Fl
