/- Packed registers, part 2: bytes with their checksum, on both sides. -/
import Derived.Test.YtplpeeienpaaeaaDoorPk1
namespace Go.Proofs.YtplpeeienpaaeaaDoor
open Go.RowKit Go.Joins

/-- bytes with their checksum behind them -/
def sealB (l : List UInt8) : List UInt8 := l ++ [byt (sumB l / 256), byt (sumB l % 256)]
theorem sealB_len (l : List UInt8) : (sealB l).length = l.length + 2 := by simp [sealB]
theorem bys_two (l : List UInt8) (x y : Int) (hx : 0 ≤ x) (hx2 : x < 256) (hy : 0 ≤ y) (hy2 : y < 256) : bys l ++ (#[Value.int .u8 x, Value.int .u8 y] : Array Value).toList = bys (l ++ [byt x, byt y]) := by
  show _ ++ [_, _] = _
  unfold bys
  rw [List.map_append, List.map_cons, List.map_cons, byV_byt hx hx2, byV_byt hy hy2]; rfl
theorem bys_one (l : List UInt8) (x : Int) (hx : 0 ≤ x) (hx2 : x < 256) : bys l ++ (#[Value.int .u8 x] : Array Value).toList = bys (l ++ [byt x]) := by
  show _ ++ [_] = _
  unfold bys
  rw [List.map_append, List.map_cons, byV_byt hx hx2]; rfl

end Go.Proofs.YtplpeeienpaaeaaDoor
