/- The plain side of the sanity examples. -/
import Derived.Test.YtaajkhdmeghnbaaPla2
namespace Go.Proofs.Ytaajkhdmeghnbaa
open Go.RowKit Go.Sort

def s0 : Dk := mkDk 2
def s1 : Dk := (s0.write 0 1 [97, 98, 99]).1
def s2 : Dk := s1.mount [3]
def s3 : Dk := (s2.write 1 127 [120]).1
def s4 : Dk := s3.flush.1
def s5 : Dk := (s4.rot 1 1016).1
def s6 : Dk := s5.setTrip 1
def s7 : Dk := (s6.write 0 0 []).1
def s8 : Dk := s7.flush.1
theorem san_e1 : (s0.write 0 1 [97, 98, 99]).2 = 0 := by decide +kernel
theorem san_r1 : s1.read 0 = ([0, 97, 98, 99] ++ List.replicate 124 0, 0) := by decide +kernel
theorem san_im : s1.image = [List.replicate 128 0, List.replicate 128 0] := by decide +kernel
theorem san_pe : pendOf s1.p = [0] := by decide +kernel
theorem san_r2 : s2.read 0 = ([0, 97, 98] ++ List.replicate 125 0, 0) := by decide +kernel
theorem san_e3 : (s2.write 1 127 [120]).2 = 0 := by decide +kernel
theorem san_e4 : s3.flush.2 = 0 := by decide +kernel
theorem san_e5 : (s4.rot 1 1016).2 = 0 := by decide +kernel
theorem san_r5 : s5.read 1 = (List.replicate 127 0 ++ [121], 0) := by decide +kernel
theorem san_e7 : (s6.write 0 0 []).2 = 0 := by decide +kernel
theorem san_e8 : s7.flush.2 = 20 := by decide +kernel
theorem san_r8 : s8.read 0 = ([], 20) := by decide +kernel
theorem san_up : s8.off = true := by decide +kernel
theorem san_len : s8.p.length = 2 := by decide +kernel
theorem san_e9 : s8.rot 0 1024 = (s8, 1) := by unfold Dk.rot; simp [Dk.is, eArg]
end Go.Proofs.Ytaajkhdmeghnbaa
