/- Words of this session's own beside the printed ones: a string's bytes made a slice. No conditions. -/
import Derived.Test.YtjcpnfmbdbeinaaWMore
import Derived.Lib.ConvBytes
namespace Go.Proofs.YtjcpnfmbdbeinaaW.PrintMore
open Go.RowKit Go.Proofs.YtjcpnfmbdbeinaaW.PrintWords Go.Proofs.YtjcpnfmbdbeinaaW.PrintLast

section
variable {P : Program} {ops : Array Oper} {Q : Exit → Act → World → Prop} {rest : List Oper} {a : Act} {W : World}
theorem bytes_C (W : World) (e : TypeId) (s : ByteArray) (hl : s.size ≤ 9223372036854775807) {y : List Int} (hy : y = bytesOf s) :
    Kd.C (Kd.int .u8) (Lib.bytesWorld W e s) (some ⟨W.heap.size, 0, none⟩) y.length y := by
  subst hy
  refine Kd.C_of_reads (enc := Value.int .u8) (d := (0 : Int)) (h1 := fun _ => rfl) ?_
  rw [bytesOf_length]
  exact bytes_reads W e s hl
theorem bytes_room (W : World) (s : ByteArray) (e : TypeId) : s.size ≤ grownCap W s.size 0 e := by
  unfold grownCap
  simp [Question.cut]
theorem conv_bytes {o : Oper} {N : Tmp} (hd : o.dst = some N) (hgd : o.guard = none) (src dst e : TypeId) {x : Operand} (ho : o.op = .convert src dst x) (s : ByteArray) (hx : a.eval x = .string s)
    {u : TypeDesc} (hs : P.underlying src = some u) (hdst : P.underlying dst = some (.slice e)) (he : P.underlying e = some (.int .u8)) {y : List Int} (hy : y = bytesOf s) (hl : s.size ≤ 9223372036854775807)
    (h : ∀ A c w1, Kd.C (Kd.int .u8) w1 A y.length y → y.length ≤ c → Below W.heap.size W w1 → wpList P ops Q rest (a.put (some N) (.slice A y.length c)) w1) : wpList P ops Q (o :: rest) a W := by
  have hr := bytes_C W e s hl hy
  have hlen : y.length = s.size := by rw [hy, bytesOf_length]
  have hrm : y.length ≤ grownCap W s.size 0 e := by rw [hlen]; exact bytes_room W s e
  have hb : Below W.heap.size W (Lib.bytesWorld W e s) := bytes_below (Below.refl _ _) (Nat.le_refl _) e s
  have hrun : (execOp a.eval o).run P W = .ok (.value (.slice (some ⟨W.heap.size, 0, none⟩) y.length (grownCap W s.size 0 e))) (Lib.bytesWorld W e s) := by
    have h1 := print_bytes (P := P) src dst e hs hdst he s W
    unfold execOp
    simp [ho, hx, h1, hlen, Result.andThen]
  refine Kd.event_run hgd hrun ?_
  rw [hd]
  exact h _ _ _ hr hrm hb
end
end Go.Proofs.YtjcpnfmbdbeinaaW.PrintMore
