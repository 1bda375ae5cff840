/- Messages of DHCP as plain bytes: how one is written. No program in sight. -/
import Derived.Test.YtcbkaiakdhiloabFmt
import Derived.Test.YtcbkaiakdhiloabFmt2
set_option linter.unusedSimpArgs false
set_option linter.unusedVariables false
namespace Go.Proofs.Ytcbkaiakdhiloab

/-- an option -/
structure OptD where
  code : UInt8
  data : List UInt8
/-- an option's bytes: pieces of 255 at the most -/
def chunkF : Nat → UInt8 → List UInt8 → List UInt8
  | 0, c, d => [c, UInt8.ofNat d.length] ++ d
  | n + 1, c, d => if d.length ≤ 255 then [c, UInt8.ofNat d.length] ++ d else [c, 255] ++ d.take 255 ++ chunkF n c (d.drop 255)
def chunk (c : UInt8) (d : List UInt8) : List UInt8 := chunkF d.length c d
theorem chunkF_eq : ∀ (n m : Nat) (c : UInt8) (d : List UInt8), d.length ≤ n → d.length ≤ m → chunkF n c d = chunkF m c d
  | 0, 0, _, _, _, _ => rfl
  | 0, m + 1, c, d, h, _ => by
    have : d = [] := List.eq_nil_of_length_eq_zero (by omega)
    subst this; simp [chunkF]
  | n + 1, 0, c, d, _, h => by
    have : d = [] := List.eq_nil_of_length_eq_zero (by omega)
    subst this; simp [chunkF]
  | n + 1, m + 1, c, d, h1, h2 => by
    simp only [chunkF]
    split
    · rfl
    · rename_i h
      rw [chunkF_eq n m c (d.drop 255) (by rw [List.length_drop]; omega) (by rw [List.length_drop]; omega)]
theorem chunk_small (c : UInt8) (d : List UInt8) (h : d.length ≤ 255) : chunk c d = [c, UInt8.ofNat d.length] ++ d := by
  unfold chunk
  cases hd : d.length with
  | zero => simp [chunkF, hd]
  | succ n => simp only [chunkF]; rw [if_pos h, hd]
theorem chunk_big (c : UInt8) (d : List UInt8) (h : 255 < d.length) : chunk c d = [c, 255] ++ d.take 255 ++ chunk c (d.drop 255) := by
  unfold chunk
  obtain ⟨n, hn⟩ : ∃ n, d.length = n + 1 := ⟨d.length - 1, by omega⟩
  rw [hn]
  simp only [chunkF]
  rw [if_neg (by omega), chunkF_eq n (d.drop 255).length c (d.drop 255) (by rw [List.length_drop]; omega) (Nat.le_refl _)]
/-- the program's own step: min(255, len) bytes, and on while there are more -/
theorem chunk_step (c : UInt8) (d : List UInt8) (h : 255 ≤ d.length) (hd : d.drop 255 ≠ []) : chunk c d = [c, 255] ++ d.take 255 ++ chunk c (d.drop 255) := by
  rcases Nat.lt_or_ge 255 d.length with h1 | h1
  · exact chunk_big c d h1
  · exact absurd (List.drop_eq_nil_of_le (by omega)) hd
theorem chunk_last (c : UInt8) (d : List UInt8) (h : d.length ≤ 255) : chunk c d = [c, UInt8.ofNat (min d.length 255)] ++ d.take (min d.length 255) := by
  rw [chunk_small c d h, Nat.min_eq_left h, List.take_length]
/-- zeros behind, till there are n bytes -/
def zeroTo (l : List UInt8) (n : Nat) : List UInt8 := l ++ List.replicate (n - l.length) 0
/-- may an option be written? -/
def optBad (o : OptD) : Bool := o.code == 0 || o.code == 255 || o.code == 52
/-- what stands ahead of the options -/
def dhcHead (reply : Bool) (xid client yours next : Nat) (mac : List UInt8) : List UInt8 :=
  zeroTo ([if reply then 2 else 1, 1, 6, 0] ++ big 4 xid ++ [0, 0] ++ (if client = 0 then [128, 0] else [0, 0]) ++ big 4 client ++ big 4 yours ++ big 4 next ++ big 4 0 ++ mac) 236 ++ [99, 130, 83, 99]
def dhcBody (head : List UInt8) (os : List OptD) : List UInt8 := zeroTo (head ++ os.flatMap (fun o => chunk o.code o.data) ++ [255]) 300
/-- a message as bytes, and the error's number -/
def wrDHCP (reply : Bool) (xid client yours next : Nat) (mac : List UInt8) (os : List OptD) : List UInt8 × Nat :=
  if os.any optBad then ([], 2)
  else if 1472 < (dhcBody (dhcHead reply xid client yours next mac) os).length then ([], 7)
  else (dhcBody (dhcHead reply xid client yours next mac) os, 0)
theorem zeroTo_length (l : List UInt8) (n : Nat) : (zeroTo l n).length = max l.length n := by unfold zeroTo; simp; omega
theorem dhcHead_length (reply : Bool) (xid client yours next : Nat) (mac : List UInt8) (hm : mac.length = 6) : (dhcHead reply xid client yours next mac).length = 240 := by
  unfold dhcHead
  rw [List.length_append, zeroTo_length]
  by_cases hc : client = 0 <;> cases reply <;> simp [hc, big_length, hm]

/-! How one is read. -/
/-- more of an option -/
def optAdd : List OptD → UInt8 → List UInt8 → List OptD
  | [], c, d => [⟨c, d⟩]
  | o :: r, c, d => if o.code = c then ⟨o.code, o.data ++ d⟩ :: r else o :: optAdd r c d
def optOf : List OptD → UInt8 → Option (List UInt8)
  | [], _ => none
  | o :: r, c => if o.code = c then some o.data else optOf r c
/-- options out of bytes, up to their end; none: there is no end -/
def optRead : Nat → List OptD → List UInt8 → Option (List OptD)
  | 0, _, _ => none
  | _ + 1, _, [] => none
  | n + 1, os, c :: r =>
    if c = 255 then some os
    else if c = 0 then optRead n os r
    else match r with
      | [] => none
      | k :: r => if r.length < k.toNat then none else optRead n (optAdd os c (r.take k.toNat)) (r.drop k.toNat)
end Go.Proofs.Ytcbkaiakdhiloab
