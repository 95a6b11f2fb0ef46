/- Memory, plainly: what is stored is loaded. -/
import Derived.Test.YtcccfckefjjoiaaMemPlain
namespace Go.Mem

theorem back_load (c : Cells) (a n v : Int) (hn : sizeB n = true) : loadL (storeL c a n v) a n = v % 256 ^ n.toNat := load_store a n v hn

theorem load_one (c : Cells) (x : Int) (h0 : 0 ≤ x) (h1 : x < 4294967296) : loadL c x 1 = getL c x := by
  have e : w32 x = x := by unfold w32; omega
  show loadN c x 1 = _
  rw [loadN, loadN, e]
  omega

theorem back_other (c : Cells) (a n v x : Int) (hn : sizeB n = true) (h0 : 0 ≤ x) (h1 : x < 4294967296) (h : ¬ (x - a) % 4294967296 < n) : loadL (storeL c a n v) x 1 = loadL c x 1 := by
  rw [load_one _ x h0 h1, load_one _ x h0 h1, load_other a n v x hn h0 h1 h]

end Go.Mem
