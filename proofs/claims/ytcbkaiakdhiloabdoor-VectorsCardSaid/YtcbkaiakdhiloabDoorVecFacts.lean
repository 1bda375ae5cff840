/- What the papers say of the hash, the sum and a head: plain facts. -/
import Derived.Test.YtcbkaiakdhiloabDoorBootHash
import Derived.Test.YtcbkaiakdhiloabDoorKeepHex
import Derived.Test.YtcbkaiakdhiloabDoorKeepBytes
import Derived.Test.YtcbkaiakdhiloabDoorCheckB
import Derived.Test.YtcbkaiakdhiloabDoorBootRIP
import Derived.Test.YtcbkaiakdhiloabDoorWrIP
import Derived.Test.YtcbkaiakdhiloabDoorWrARP
import Derived.Test.YtcbkaiakdhiloabDoorWrEther
set_option linter.unusedSimpArgs false
set_option linter.unusedVariables false
namespace Go.Proofs.YtcbkaiakdhiloabDoor
open Go.RowKit Go.Proofs
set_option maxRecDepth 100000

def v_h1 : List UInt8 := [98, 97, 55, 56, 49, 54, 98, 102, 56, 102, 48, 49, 99, 102, 101, 97, 52, 49, 52, 49, 52, 48, 100, 101, 53, 100, 97, 101, 50, 50, 50, 51, 98, 48, 48, 51, 54, 49, 97, 51, 57, 54, 49, 55, 55, 97, 57, 99, 98, 52, 49, 48, 102, 102, 54, 49, 102, 50, 48, 48, 49, 53, 97, 100]
theorem v_h1_ok : ∀ c ∈ v_h1, hexOk c := by unfold hexOk; decide
def v_h2 : List UInt8 := [101, 51, 98, 48, 99, 52, 52, 50, 57, 56, 102, 99, 49, 99, 49, 52, 57, 97, 102, 98, 102, 52, 99, 56, 57, 57, 54, 102, 98, 57, 50, 52, 50, 55, 97, 101, 52, 49, 101, 52, 54, 52, 57, 98, 57, 51, 52, 99, 97, 52, 57, 53, 57, 57, 49, 98, 55, 56, 53, 50, 98, 56, 53, 53]
theorem v_h2_ok : ∀ c ∈ v_h2, hexOk c := by unfold hexOk; decide
def v_h3 : List UInt8 := [50, 52, 56, 100, 54, 97, 54, 49, 100, 50, 48, 54, 51, 56, 98, 56, 101, 53, 99, 48, 50, 54, 57, 51, 48, 99, 51, 101, 54, 48, 51, 57, 97, 51, 51, 99, 101, 52, 53, 57, 54, 52, 102, 102, 50, 49, 54, 55, 102, 54, 101, 99, 101, 100, 100, 52, 49, 57, 100, 98, 48, 54, 99, 49]
theorem v_h3_ok : ∀ c ∈ v_h3, hexOk c := by unfold hexOk; decide
def v_c4 : List UInt8 := [48, 48, 32, 48, 49, 32, 102, 50, 32, 48, 51, 32, 102, 52, 32, 102, 53, 32, 102, 54, 32, 102, 55]
theorem v_c4_ok : ∀ c ∈ v_c4, hexOk c := by unfold hexOk; decide
def v_hd : List UInt8 := [52, 53, 32, 48, 48, 32, 48, 48, 32, 55, 51, 32, 48, 48, 32, 48, 48, 32, 52, 48, 32, 48, 48, 32, 52, 48, 32, 49, 49, 32, 98, 56, 32, 54, 49, 32, 99, 48, 32, 97, 56, 32, 48, 48, 32, 48, 49, 32, 99, 48, 32, 97, 56, 32, 48, 48, 32, 99, 55]
theorem v_hd_ok : ∀ c ∈ v_hd, hexOk c := by unfold hexOk; decide
def v_ar : List UInt8 := [48, 48, 32, 48, 49, 32, 48, 56, 32, 48, 48, 32, 48, 54, 32, 48, 52, 32, 48, 48, 32, 48, 49, 32, 48, 50, 32, 48, 48, 32, 48, 48, 32, 48, 48, 32, 48, 48, 32, 50, 97, 32, 48, 97, 32, 48, 48, 32, 48, 48, 32, 51, 55, 32, 48, 48, 32, 48, 48, 32, 48, 48, 32, 48, 48, 32, 48, 48, 32, 48, 48, 32, 48, 97, 32, 48, 48, 32, 48, 48, 32, 48, 49]
theorem v_ar_ok : ∀ c ∈ v_ar, hexOk c := by unfold hexOk; decide
def v_eh : List UInt8 := [48, 50, 32, 48, 48, 32, 48, 48, 32, 48, 48, 32, 48, 48, 32, 48, 55, 32, 48, 50, 32, 48, 48, 32, 48, 48, 32, 48, 48, 32, 48, 48, 32, 50, 97, 32, 48, 56, 32, 48, 54]
theorem v_eh_ok : ∀ c ∈ v_eh, hexOk c := by unfold hexOk; decide
theorem vec1 : hexL v_h1 = sha [97, 98, 99] := by decide +kernel
theorem vec2 : hexL v_h2 = sha [] := by decide +kernel
theorem vec3 : hexL v_h3 = sha [97, 98, 99, 100, 98, 99, 100, 101, 99, 100, 101, 102, 100, 101, 102, 103, 101, 102, 103, 104, 102, 103, 104, 105, 103, 104, 105, 106, 104, 105, 106, 107, 105, 106, 107, 108, 106, 107, 108, 109, 107, 108, 109, 110, 108, 109, 110, 111, 109, 110, 111, 112, 110, 111, 112, 113] := by decide +kernel
theorem vec4 : check (hexL v_c4) = 8717 := by decide +kernel
theorem vec5 : check [] = 65535 := by decide +kernel
theorem vec6 : check [1] = 65279 := by decide +kernel
theorem vec7 : check [255, 255] = 0 := by decide +kernel
/-- the head of the packet -/
def vHd : List UInt8 := [69, 0, 0, 115, 0, 0, 64, 0, 64, 17, 184, 97, 192, 168, 0, 1, 192, 168, 0, 199]
def vAr : List UInt8 := [0, 1, 8, 0, 6, 4, 0, 1, 2, 0, 0, 0, 0, 42, 10, 0, 0, 55, 0, 0, 0, 0, 0, 0, 10, 0, 0, 1]
def vEh : List UInt8 := [2, 0, 0, 0, 0, 7, 2, 0, 0, 0, 0, 42, 8, 6]
theorem vec8 : hexL v_hd = vHd := by decide +kernel
theorem vec9 : hexL v_ar = vAr := by decide +kernel
theorem vec10 : hexL v_eh = vEh := by decide +kernel
def ipEq (a b : IpD) : Bool := a.id == b.id && a.ttl == b.ttl && a.pr == b.pr && a.fm == b.fm && a.to == b.to && a.by' == b.by'
theorem ipEq_of {a b : IpD} (h : ipEq a b = true) : a = b := by
  cases a; cases b
  simp only [ipEq, Bool.and_eq_true, beq_iff_eq] at h
  obtain ⟨⟨⟨⟨⟨rfl, rfl⟩, rfl⟩, rfl⟩, rfl⟩, rfl⟩ := h; rfl
theorem vec11a : ipEq (readIP (vHd ++ bytesN 95 95 ++ [98, 101, 104, 105, 110, 100])).1 ⟨0, 64, 17, 3232235521, 3232235719, bytesN 95 95⟩ = true := by decide +kernel
theorem vec11 : (readIP (vHd ++ bytesN 95 95 ++ [98, 101, 104, 105, 110, 100])).1 = ⟨0, 64, 17, 3232235521, 3232235719, bytesN 95 95⟩ := ipEq_of vec11a
theorem vec12 : (readIP (vHd ++ bytesN 95 95 ++ [98, 101, 104, 105, 110, 100])).2 = 0 := by decide +kernel
theorem vec13 : wrIP 0 64 17 3232235521 3232235719 (bytesN 95 95) = (vHd ++ bytesN 95 95, 0) := by decide +kernel
theorem vec14 : wrARP 1 (2, 0, 0, 0, 0, 42) 167772215 (0, 0, 0, 0, 0, 0) 167772161 = (vAr, 0) := by decide +kernel
theorem vec15 : wrEther (2, 0, 0, 0, 0, 7) (2, 0, 0, 0, 0, 42) 2054 vAr = (vEh ++ vAr ++ List.replicate 18 0, 0) := by decide +kernel
end Go.Proofs.YtcbkaiakdhiloabDoor
