/- Parts of the walk; written by programs, merged. -/
import Derived.Test.YtcbkaiakdhiloabGreatDoorRad
import Derived.Test.YtcbkaiakdhiloabGreatDoorRae
import Derived.OrdersHeld
import Derived.Lib.MapLaws
import Derived.Lib.TrimAscii
import Derived.Shelf.Strings.MapAny
set_option linter.unusedSimpArgs false
set_option linter.unusedVariables false
set_option maxRecDepth 20000
set_option maxHeartbeats 8000000
namespace Go.Proofs.YtcbkaiakdhiloabGreatDoor
def rotr (x : UInt32) (n : Nat) : UInt32 := UInt32.ofNat ((x.toNat / 2 ^ n) ||| (x.toNat * 2 ^ (32 - n)) % 4294967296)
def shr (x : UInt32) (n : Nat) : UInt32 := UInt32.ofNat (x.toNat / 2 ^ n)
def sg0 (x : UInt32) : UInt32 := rotr x 7 ^^^ rotr x 18 ^^^ shr x 3
def sg1 (x : UInt32) : UInt32 := rotr x 17 ^^^ rotr x 19 ^^^ shr x 10
def bg0 (x : UInt32) : UInt32 := rotr x 2 ^^^ rotr x 13 ^^^ rotr x 22
def bg1 (x : UInt32) : UInt32 := rotr x 6 ^^^ rotr x 11 ^^^ rotr x 25
def chs (e f g : UInt32) : UInt32 := (e &&& f) ^^^ (~~~ e &&& g)
def maj (a b c : UInt32) : UInt32 := (a &&& b) ^^^ (a &&& c) ^^^ (b &&& c)
def nextW (w : List UInt32) : UInt32 := w.getD (w.length - 16) 0 + sg0 (w.getD (w.length - 15) 0) + w.getD (w.length - 7) 0 + sg1 (w.getD (w.length - 2) 0)
def sched (w : List UInt32) : Nat → List UInt32
  | 0 => w
  | k + 1 => sched w k ++ [nextW (sched w k)]
def wd (a b c d : UInt8) : UInt32 := UInt32.ofNat (a.toNat * 16777216 + b.toNat * 65536 + c.toNat * 256 + d.toNat)
def words32 (b : List UInt8) (k : Nat) : List UInt32 := (List.range k).map fun i => wd (b.getD (4 * i) 0) (b.getD (4 * i + 1) 0) (b.getD (4 * i + 2) 0) (b.getD (4 * i + 3) 0)
structure S8 where
  a : UInt32
  b : UInt32
  c : UInt32
  d : UInt32
  e : UInt32
  f : UInt32
  g : UInt32
  h : UInt32
def S8.list (v : S8) : List UInt32 := [v.a, v.b, v.c, v.d, v.e, v.f, v.g, v.h]
def rnd (v : S8) (k w : UInt32) : S8 :=
  ⟨(v.h + bg1 v.e + chs v.e v.f v.g + k + w) + (bg0 v.a + maj v.a v.b v.c), v.a, v.b, v.c, v.d + (v.h + bg1 v.e + chs v.e v.f v.g + k + w), v.e, v.f, v.g⟩
def kTab : List UInt32 := [
  0x428a2f98, 0x71374491, 0xb5c0fbcf, 0xe9b5dba5, 0x3956c25b, 0x59f111f1, 0x923f82a4, 0xab1c5ed5,
  0xd807aa98, 0x12835b01, 0x243185be, 0x550c7dc3, 0x72be5d74, 0x80deb1fe, 0x9bdc06a7, 0xc19bf174,
  0xe49b69c1, 0xefbe4786, 0x0fc19dc6, 0x240ca1cc, 0x2de92c6f, 0x4a7484aa, 0x5cb0a9dc, 0x76f988da,
  0x983e5152, 0xa831c66d, 0xb00327c8, 0xbf597fc7, 0xc6e00bf3, 0xd5a79147, 0x06ca6351, 0x14292967,
  0x27b70a85, 0x2e1b2138, 0x4d2c6dfc, 0x53380d13, 0x650a7354, 0x766a0abb, 0x81c2c92e, 0x92722c85,
  0xa2bfe8a1, 0xa81a664b, 0xc24b8b70, 0xc76c51a3, 0xd192e819, 0xd6990624, 0xf40e3585, 0x106aa070,
  0x19a4c116, 0x1e376c08, 0x2748774c, 0x34b0bcb5, 0x391c0cb3, 0x4ed8aa4a, 0x5b9cca4f, 0x682e6ff3,
  0x748f82ee, 0x78a5636f, 0x84c87814, 0x8cc70208, 0x90befffa, 0xa4506ceb, 0xbef9a3f7, 0xc67178f2]
def h0 : S8 := ⟨0x6a09e667, 0xbb67ae85, 0x3c6ef372, 0xa54ff53a, 0x510e527f, 0x9b05688c, 0x1f83d9ab, 0x5be0cd19⟩
def rnds (v : S8) (ws : List UInt32) : Nat → S8
  | 0 => v
  | k + 1 => rnd (rnds v ws k) (kTab.getD k 0) (ws.getD k 0)
def S8.add (x y : S8) : S8 := ⟨x.a + y.a, x.b + y.b, x.c + y.c, x.d + y.d, x.e + y.e, x.f + y.f, x.g + y.g, x.h + y.h⟩
def blk (h : S8) (b : List UInt8) : S8 := h.add (rnds h (sched (words32 b 16) 48) 64)
def feedN : Nat → S8 → List UInt8 → S8 × List UInt8
  | 0, h, l => (h, l)
  | n + 1, h, l => feedN n (blk h (l.take 64)) (l.drop 64)
def feed (h : S8) (l : List UInt8) : S8 × List UInt8 := feedN (l.length / 64) h l
def out8 (v : S8) : List UInt8 := v.list.flatMap fun x => big 4 x.toNat
def padTo (l : List UInt8) : List UInt8 := l ++ [128] ++ List.replicate ((119 - l.length % 64) % 64) 0
def padded64 (l : List UInt8) : List UInt8 := padTo l ++ big 8 (8 * l.length)
def sha (l : List UInt8) : List UInt8 := out8 (feed h0 (padded64 l)).1
end Go.Proofs.YtcbkaiakdhiloabGreatDoor
namespace Go.Proofs.YtcbkaiakdhiloabGreatDoor
open Go.RowKit Go.Proofs
structure EntD where
  ip : Nat
  card : Mac
  known : Bool
  due : Int
  asked : Int
  waits : List UInt8
structure CfgD where
  card : Mac
  name : List UInt8
  cap : Nat
  digest : List UInt8
  block : Nat
  window : Nat
  rx : Nat
  tx : Nat
structure St where
  c : CfgD
  rx : List (List UInt8)
  tx : List (List UInt8)
  now : Int
  draw : Nat
  boots : Int
  lost : Int
  id : Nat
  cache : List EntD
  lease : Nat
  xid : Nat
  addr : Nat
  mask : Nat
  router : Nat
  server : Nat
  source : Nat
  t1 : Int
  t2 : Int
  untl : Int
  lagain : Int
  lsends : Nat
  phase : Nat
  port : Nat
  peer : Nat
  block : Nat
  wind : Nat
  next : Nat
  came : Int
  tagain : Int
  tsends : Nat
  goal : Nat
  last : List UInt8
  image : List UInt8
def zMac : Mac := (0, 0, 0, 0, 0, 0)
def aMac : Mac := (255, 255, 255, 255, 255, 255)
def numT (l : List UInt8) : Option Nat :=
  if l.length < 1 ∨ 7 < l.length ∨ (1 < l.length ∧ l[0]? = some 48) then none
  else if l.all fun c => decide (48 ≤ c.toNat) && decide (c.toNat ≤ 57) then some (l.foldl (fun n c => 10 * n + (c.toNat - 48)) 0) else none
def find (l : List EntD) (ip : Nat) : Option EntD := l.find? fun e => e.ip == ip
def ahead (a b : EntD) : Bool := decide (a.due < b.due) || (decide (a.due = b.due) && decide (a.ip < b.ip))
def leastIx (l : List EntD) : Nat → Nat → Nat
  | k, i => match l[k]?, l[i]? with
    | some a, some b => if ahead a b then k else i
    | _, _ => i
def least : List EntD → EntD → EntD
  | [], b => b
  | a :: r, b => least r (if ahead a b then a else b)
def enter (l : List EntD) (e : EntD) : List EntD :=
  if l.length < 4 then l ++ [e] else match l with
    | [] => [e]
    | b :: r => l.map fun x => if x.ip = (least r b).ip then e else x
def setEnt (l : List EntD) (ip : Nat) (f : EntD → EntD) : List EntD := l.map fun e => if e.ip = ip then f e else e
namespace St
def address (s : St) : Nat := if 4 ≤ s.lease then s.addr else 0
def over (s : St) : Bool := s.phase == 3 || s.phase == 4
def wait (s : St) (k : Nat) : Int := ((2 * 2 ^ k + s.draw % 3 : Nat) : Int) - 1
def put (s : St) (f : List UInt8) : St × Bool := if s.rx.length = s.c.rx then (s, false) else ({ s with rx := s.rx ++ [f] }, true)
def take (s : St) : St × Option (List UInt8) := match s.tx with
  | [] => (s, none)
  | f :: r => ({ s with tx := r }, some f)
def drop (s : St) : St := ⟨s.c, s.rx, s.tx, s.now, s.draw, s.boots, s.lost, s.id, [], 0, 0, 0, 0, 0, 0, 0, 0, 0, 0, 0, 0, 0, 0, 0, 0, 0, 0, 0, 0, 0, 0, [], []⟩
def fail (s : St) : St :=
  let t := { s.drop with boots := wrap64 (s.boots + 1) }
  if wrap64 (s.boots + 1) = 3 then { t with phase := 4 } else t
def send (s : St) (dst : Mac) (kind : Nat) (load : List UInt8) : St :=
  if s.tx.length = s.c.tx then { s with lost := wrap64 (s.lost + 1) } else { s with tx := s.tx ++ [(wrEther dst s.c.card kind load).1] }
def arp (s : St) (op : Nat) (dst whose : Mac) (fm ip : Nat) : St := s.send dst 2054 (wrARP op s.c.card fm whose ip).1
def ask (s : St) (fm ip : Nat) : St := s.arp 1 aMac zMac fm ip
def packet (s : St) (dst fm port : Nat) (load : List UInt8) : List UInt8 := (wrIP (s.id % 65536) 64 17 s.address dst (wrUDP fm port s.address dst load).1).1
def took (s : St) : St := { s with id := s.id + 1 }
def hop (s : St) (dst : Nat) : Nat := if s.router ≠ 0 ∧ dst &&& s.mask ≠ s.addr &&& s.mask then s.router else dst
def udp (s : St) (dst fm port : Nat) (load : List UInt8) : St :=
  let p := s.packet dst fm port load
  let h := s.hop dst
  match find s.cache h with
  | none => { s.took with cache := enter s.cache ⟨h, zMac, false, wrap64 (s.now + 2), 1, p⟩ }.ask s.addr h
  | some e => if e.known then s.took.send e.card 2048 p else { s.took with cache := setEnt s.cache h fun e => { e with waits := p } }
def msgO (kind : UInt8) (os : List OptD) : List OptD := [⟨53, [kind]⟩] ++ os ++ (if kind = 4 then [] else [⟨55, [1, 3, 51, 54, 58, 59]⟩])
def msg (s : St) (kind : UInt8) (os : List OptD) : List UInt8 := (wrDHCP false s.xid s.address 0 0 (macB s.c.card) (msgO kind os)).1
def say (s : St) (kind : UInt8) (alone : Bool) (os : List OptD) : St :=
  if alone then s.udp s.server 68 67 (s.msg kind os) else s.took.send aMac 2048 (s.packet 4294967295 68 67 (s.msg kind os))
def both (s : St) : List OptD := [⟨50, big 4 s.addr⟩, ⟨54, big 4 s.server⟩]
def asks (s : St) : St := if s.lease = 1 then s.say 1 false [] else s.say 3 false s.both
def goes (s : St) (l : Nat) : St := { s with lease := l, lsends := 1, lagain := wrap64 (s.now + s.wait 0) }.asks
def tell (s : St) : St := s.udp s.source s.port s.goal s.last
def waits (s : St) (m : TftD) : St := { s with last := (wrTFTP m).1, goal := if s.phase = 1 then 69 else s.peer, tsends := 1, tagain := wrap64 (s.now + s.wait 0) }
def bNm : List UInt8 := [98, 108, 107, 115, 105, 122, 101]
def wNm : List UInt8 := [119, 105, 110, 100, 111, 119, 115, 105, 122, 101]
def tNm : List UInt8 := [116, 115, 105, 122, 101]
def got (s : St) : St := { s.waits ⟨4, (s.next + 65535) % 65536, [], [], []⟩ with came := 0 }.tell
def wrong (s : St) (port code : Nat) (text : List UInt8) : St := s.udp s.source s.port port (wrTFTP ⟨5, code, text, [], []⟩).1
def busy (s : St) : Bool := s.phase == 1 || s.phase == 2
def decline (s : St) : St := (s.say 4 false s.both).fail
def learn (s : St) (a : ArpD) (mine : Bool) : St :=
  let e : EntD := ⟨a.fi, a.fm, true, wrap64 (s.now + 60), 0, []⟩
  match find s.cache a.fi with
  | some o => let t := { s with cache := setEnt s.cache a.fi fun _ => e }
    if o.waits = [] then t else t.send a.fm 2048 o.waits
  | none => if mine then { s with cache := enter s.cache e } else s
def asked (s : St) (a : ArpD) : Bool := s.address != 0 && a.ti == s.address && a.op == 1
def arped (s : St) (a : ArpD) : St :=
  if s.lease = 3 ∧ a.fi = s.addr ∧ a.fm ≠ s.c.card then s.decline
  else
    let m := s.asked a
    let t := if a.fi ≠ 0 ∧ a.fi ≠ s.address then s.learn a m else s
    if m then t.arp 2 a.fm a.fm t.address a.fi else t
def number (os : List OptD) (code : UInt8) : Option Nat := match optOf os code with
  | some d => if d.length = 4 then some (num d) else none
  | none => none
def routerOf (os : List OptD) : Option Nat := match optOf os 3 with
  | some d => if 4 ≤ d.length then some (num (d.take 4)) else none
  | none => none
def times (s : St) (d : DhcD) (time : Nat) : St :=
  if time = 4294967295 then { s with t1 := 0, t2 := 0, untl := 0 }
  else
    let p := match number d.os 58, number d.os 59 with
      | some x, some y => if x < y ∧ y < time then (x, y) else (time / 2, time / 8 * 7)
      | _, _ => (time / 2, time / 8 * 7)
    { s with t1 := wrap64 (s.now + p.1), t2 := wrap64 (s.now + p.2), untl := wrap64 (s.now + time) }
def granted (s : St) (d : DhcD) (fm : Nat) : St :=
  match number d.os 51 with
  | none => s
  | some time =>
    if ¬ (s.lease = 2 ∨ s.lease = 5 ∨ s.lease = 6) ∨ time = 0 ∨ d.yours ≠ s.addr then s
    else
      let t := ({ s with server := fm, mask := (number d.os 1).getD 4294967295, router := (routerOf d.os).getD 0, source := if d.next ≠ 0 then d.next else fm }).times d time
      if s.lease = 2 then { t with lease := 3, lagain := wrap64 (s.now + 2) }.ask 0 s.addr else { t with lease := 4 }
def leased (s : St) (d : DhcD) : St :=
  match optOf d.os 53, number d.os 54 with
  | some [k], some fm =>
    if k = 2 then if s.lease = 1 ∧ d.yours ≠ 0 then { s with addr := d.yours, server := fm }.goes 2 else s
    else if k = 5 then if fm = s.server ∨ s.lease = 6 then s.granted d fm else s
    else if k = 6 then if (fm = s.server ∨ s.lease = 6) ∧ 2 ≤ s.lease ∧ s.lease ≠ 3 then s.drop else s
    else s
  | _, _ => s
def eSize : List UInt8 := [115, 105, 122, 101]
def ePort : List UInt8 := [112, 111, 114, 116]
def eOpt : List UInt8 := [111, 112, 116, 105, 111, 110]
def agree (port : Nat) : List FldD → St → St
  | [], s => { s with phase := 2, peer := port }.got
  | f :: r, s => match numT f.value with
    | none => (s.wrong port 8 eOpt).fail
    | some n =>
      if f.name = bNm ∧ 8 ≤ n ∧ n ≤ s.c.block then agree port r { s with block := n }
      else if f.name = wNm ∧ 1 ≤ n ∧ n ≤ s.c.window then agree port r { s with wind := n }
      else if f.name = tNm then if n ≤ s.c.cap then agree port r s else (s.wrong port 3 eSize).fail
      else (s.wrong port 8 eOpt).fail
def data (s : St) (t : TftD) : St :=
  if s.block < t.data.length then s
  else if t.block ≠ s.next % 65536 then s.got
  else if s.c.cap < s.image.length + t.data.length then (s.wrong s.peer 3 eSize).fail
  else
    let u := { s with image := s.image ++ t.data, next := s.next + 1, came := wrap64 (s.came + 1) }
    if t.data.length = s.block then if u.came = u.wind then u.got else u.waits ⟨4, t.block, [], [], []⟩
    else if sha u.image = s.c.digest then { u.got with phase := 3 } else u.got.fail
def loads (s : St) (port : Nat) (t : TftD) : St :=
  if s.phase = 2 ∧ port ≠ s.peer then if t.op = 5 then s else s.wrong port 5 ePort
  else if t.op = 5 then s.fail
  else if s.phase = 2 then if t.op = 3 then s.data t else s
  else if t.op = 3 then if t.block = 1 then { s with phase := 2, peer := port }.data t else s
  else if t.op = 6 then agree port t.fs s else s
def frame (s : St) (f : List UInt8) : St :=
  let e := readEther f
  if e.2 ≠ 0 ∨ (e.1.«to» ≠ s.c.card ∧ e.1.«to» ≠ aMac) then s
  else if e.1.ty = 2054 then let a := readARP e.1.by'
    if a.2 = 0 then s.arped a.1 else s
  else if e.1.ty = 2048 then
    let p := readIP e.1.by'
    if p.2 ≠ 0 ∨ p.1.pr ≠ 17 then s
    else
      let u := readUDP p.1.by' p.1.fm p.1.«to»
      if u.2 ≠ 0 then s
      else if u.1.tp = 68 then
        let d := readDHCP u.1.ld
        if d.2 = 0 ∧ d.1.reply = true ∧ d.1.xid = s.xid ∧ d.1.mac = s.c.card then s.leased d.1 else s
      else if s.busy = true ∧ s.address ≠ 0 ∧ p.1.«to» = s.address ∧ p.1.fm = s.source ∧ u.1.tp = s.port then
        let t := readTFTP u.1.ld
        if t.2 = 0 then s.loads u.1.fm t.1 else s
      else s
  else s
end St
end Go.Proofs.YtcbkaiakdhiloabGreatDoor
namespace Go.Proofs.YtcbkaiakdhiloabGreatDoor
open Go.RowKit Go.Proofs
def findBlock (n : Nat) : Code → Option Code
  | .block k c => if k == n then some (.block k c) else findBlock n c
  | .seq a b => match findBlock n a with
    | some c => some c
    | none => findBlock n b
  | .cond _ a b => match findBlock n a with
    | some c => some c
    | none => findBlock n b
  | .loop c => findBlock n c
  | .scope c => findBlock n c
  | _ => none
def sl (a : Act) (k : Nat) : Value := a.tmps.getD k undef
structure Sz (n : Nat) (a : Act) : Prop where
  size : a.tmps.size = n
  defers : a.defers = []
def frN (n : Nat) (u : Nat → Value) : Act := ⟨((List.range n).map u).toArray, []⟩
theorem Sz.eq {n : Nat} {a : Act} (h : Sz n a) : a = frN n (sl a) := by
  obtain ⟨t, d⟩ := a
  obtain ⟨h1, h2⟩ := h
  simp only at h1 h2
  subst h2
  unfold frN
  congr 1
  apply Array.ext
  · simp [h1]
  · intro i h3 h4
    simp [sl, Array.getD, h3]
section
variable {P : Program} {Q : Exit → Act → World → Prop} {a : Act} {w : World}
theorem wp_if {k : Nat} {x y : Code} {b : Bool} (h : sl a k = .bool b) (h1 : b = true → x.wp P Q a w) (h2 : b = false → y.wp P Q a w) : (Code.cond (.tmp k) x y).wp P Q a w :=
  wp_cond_split (c := .tmp k) h h1 h2
theorem wp_loop_sz {c : Code} (n : Nat) (Rel : Act → World → Prop) (mu : Act → World → Nat) (h0 : Sz n a) (h1 : Rel a w)
    (round : ∀ a w, Sz n a → Rel a w → c.wp P (Exit.then (fun a' w' => Sz n a' ∧ Rel a' w' ∧ mu a' w' < mu a w) Q) a w) : (Code.loop c).wp P Q a w := by
  refine wp_loop (fun a' w' => Sz n a' ∧ Rel a' w') mu ⟨h0, h1⟩ ?_
  rintro a' w' ⟨e, hr⟩
  exact wp_mono (round a' w' e hr) fun ex a2 w2 hq => by
    cases ex with
    | normal => exact ⟨⟨hq.1, hq.2.1⟩, hq.2.2⟩
    | _ => exact hq
end
def findRegion (n : Nat) : Code → Option Code
  | .region k ops d => if k == n then some (.region k ops d) else none
  | .block _ c => findRegion n c
  | .seq a b => match findRegion n a with
    | some c => some c
    | none => findRegion n b
  | .cond _ a b => match findRegion n a with
    | some c => some c
    | none => findRegion n b
  | .loop c => findRegion n c
  | .scope c => findRegion n c
  | _ => none
noncomputable def regionOf (f : Func) (n : Nat) : Code := (f.body.bind (findRegion n)).getD .skip
def Kp (l : List Nat) (a a' : Act) : Prop := ∀ k ∈ l, sl a' k = sl a k
def KpU (l : List Nat) (u : Nat → Value) (a' : Act) : Prop := ∀ k ∈ l, sl a' k = u k
theorem KpU.nil (u : Nat → Value) (a : Act) : KpU [] u a := fun k h => by cases h
theorem KpU.cons {k : Nat} {l : List Nat} {u : Nat → Value} {a : Act} (h : sl a k = u k) (hl : KpU l u a) : KpU (k :: l) u a := List.forall_mem_cons.2 ⟨h, hl⟩
theorem Kn (u : Nat → Value) (a : Act) : KpU [] u a := KpU.nil u a
theorem Kc {k : Nat} {l : List Nat} {u : Nat → Value} {a : Act} (h : sl a k = u k) (hl : KpU l u a) : KpU (k :: l) u a := KpU.cons h hl
theorem Kp.refl (l : List Nat) (a : Act) : Kp l a a := fun _ _ => rfl
theorem inBlock_self {id : Nat} {Q : Exit → Act → World → Prop} {a : Act} {w : World} (h : Q .normal a w) : Exit.inBlock id Q (.exit id) a w := by simp only [Exit.inBlock, if_true]; exact h
theorem then_exit {id : Nat} {K : Act → World → Prop} {Q : Exit → Act → World → Prop} {a : Act} {w : World} (h : Q (.exit id) a w) : Exit.then K Q (.exit id) a w := h
end Go.Proofs.YtcbkaiakdhiloabGreatDoor
namespace Go.Proofs.YtcbkaiakdhiloabGreatDoor
open Go.RowKit Go.Proofs
inductive Pl
  | nil
  | p (k : Nat) (t : Pl)
  | q (k : Nat) (t : Pl)
  | e (k : Nat) (t : Pl)
  | e2 (k : Nat) (t : Pl) (k' : Nat) (t' : Pl)
  | e3 (k : Nat) (t : Pl) (k' : Nat) (t' : Pl) (k'' : Nat) (t'' : Pl)
section
variable {P : Program} {ops : Array Oper} {Q : Exit → Act → World → Prop} {S : World → Prop} {brk : List Nat}
def ancB (ops : Array Oper) : Nat → Nat → Nat → Bool
  | 0, _, _ => false
  | n + 1, i, j => match ops[j]? with
    | some o => o.after.any fun e => Region.binds .any e && (e.on == i || ancB ops n i e.on)
    | none => false
def ClosedL (ops : Array Oper) (L : Array Bool) : Prop := ∀ j o, ops[j]? = some o → L.getD j false = true → ∀ e ∈ o.after, Region.binds .any e = true → L.getD e.on false = true
theorem ClosedL.set {L : Array Bool} {i : Nat} (h : ClosedL ops L) (hi : i ∈ Region.ready .any ops L) : ClosedL ops (L.setIfInBounds i true) := by
  obtain ⟨_, oi, hoi, hall⟩ := mem_ready.1 hi
  intro j oj hj hl e he hb
  by_cases hij : i = j
  · subst hij
    have : oj = oi := Option.some.inj (hj.symm.trans hoi)
    subst this
    exact getD_set_true (hall e he hb)
  · rw [getD_set_ne false hij] at hl
    exact getD_set_true (h j oj hj hl e he hb)
theorem anc_done {L : Array Bool} (h : ClosedL ops L) : ∀ (n i j : Nat), ancB ops n i j = true → (∀ o, ops[j]? = some o → ∀ e ∈ o.after, Region.binds .any e = true → L.getD e.on false = true) → L.getD i false = true := by
  intro n
  induction n with
  | zero => intro i j h0; cases h0
  | succ n ih =>
    intro i j hn hd
    unfold ancB at hn
    cases ho : ops[j]? with
    | none => rw [ho] at hn; cases hn
    | some o =>
      rw [ho] at hn
      obtain ⟨e, he, hb⟩ := Array.any_eq_true'.1 hn
      simp only [Bool.and_eq_true, Bool.or_eq_true, beq_iff_eq] at hb
      have h1 := hd o ho e he hb.1
      rcases hb.2 with h2 | h2
      · rw [← h2]; exact h1
      · exact ih i e.on h2 (fun o' ho' e' he' hb' => h e.on o' ho' h1 e' he' hb')
def calm (brk : List Nat) (L : Array Bool) : Bool := brk.all fun b => !(L.getD b false)
theorem calm_of {L : Array Bool} {i n : Nat} (h : ClosedL ops L) (ha : brk.all (fun b => ancB ops n i b) = true) (hi : L.getD i false = false) : calm brk L = true := by
  unfold calm
  rw [List.all_eq_true]
  intro b hb
  cases hl : L.getD b false with
  | false => rfl
  | true =>
    have h1 := anc_done h n i b (List.all_eq_true.1 ha b hb) (fun o ho e he hbe => h b o ho hl e he hbe)
    rw [hi] at h1; cases h1
def wpAnyC (P : Program) (ops : Array Oper) (Q : Exit → Act → World → Prop) (S : World → Prop) (brk : List Nat) : Nat → Array Bool → Act → World → Prop
  | 0, listed, a, w => Region.ready .any ops listed = [] ∧ Q .normal a w
  | fuel + 1, listed, a, w =>
    (Region.ready .any ops listed = [] → Q .normal a w) ∧
    ∀ i ∈ Region.ready .any ops listed, wpOp P ops Q i (fun a' w' => (calm brk (listed.setIfInBounds i true) = true → S w') ∧ wpAnyC P ops Q S brk fuel (listed.setIfInBounds i true) a' w') a w
theorem wpAny_of_C : ∀ (fuel : Nat) (listed : Array Bool) (a : Act) (w : World), wpAnyC P ops Q S brk fuel listed a w → wpAny P .any ops Q fuel listed a w
  | 0, _, _, _, h => h
  | fuel + 1, _, _, _, h => ⟨h.1, fun i hi => wpOp_mono (fun a' w' h' => wpAny_of_C fuel _ a' w' h'.2) (h.2 i hi)⟩
theorem getD_undone {L : Array Bool} {i : Nat} (h : L.getD i true = false) : L.getD i false = false := by
  rcases Nat.lt_or_ge i L.size with h' | h'
  · simp [h'] at h ⊢; exact h
  · simp [Array.getElem?_eq_none h'] at h
theorem wpAnyC_first {T : World → Prop} {i : Nat} {oi : Oper} {v : Value} (hi : ops[i]? = some oi) (hsel : ∀ (j : Nat) (o : Oper) cs b, ops[j]? = some o → o.op ≠ .select cs b)
    (hQ : ∀ c a w, Q (.panic c) (a.put oi.dst v) w → Q (.panic c) a w) (hib : brk.contains i = false)
    (hT : ∀ L, ClosedL ops L → L.getD i false = false → ∀ w', (calm brk L = true → S w') → T w') :
    ∀ (fuel : Nat) (listed : Array Bool) (a : Act) (w : World), ClosedL ops listed →
      (∀ j oj, ops[j]? = some oj → j ≠ i → listed.getD j true = false → (∀ e ∈ oj.after, Region.binds .any e = true → e.on ≠ i) → oi.apart ops oj = true) →
      i ∈ Region.ready .any ops listed → YieldsIf P ops T oi v a → (calm brk listed = true → S w) →
      wpAnyC P ops Q S brk fuel (listed.setIfInBounds i true) (a.put oi.dst v) w → wpAnyC P ops Q S brk (fuel + 1) listed a w := by
  have hcalm : ∀ L : Array Bool, calm brk (L.setIfInBounds i true) = calm brk L := by
    intro L
    unfold calm
    rw [Bool.eq_iff_iff, List.all_eq_true, List.all_eq_true]
    constructor
    · intro h b hb
      have hne : i ≠ b := by rintro rfl; simp at hib; exact hib hb
      have := h b hb
      rwa [getD_set_ne false hne] at this
    · intro h b hb
      have hne : i ≠ b := by rintro rfl; simp at hib; exact hib hb
      rw [getD_set_ne false hne]
      exact h b hb
  intro fuel
  induction fuel with
  | zero =>
    intro listed a w hcl _ hr hy hS H
    have hTw := hT listed hcl (getD_undone (mem_ready.1 hr).1) w hS
    refine ⟨fun h => (by rw [h] at hr; cases hr), fun j hj => ?_⟩
    by_cases hji : j = i
    · subst hji; exact hy.wpOp hi hTw ⟨fun h => hS (by rwa [hcalm] at h), H⟩
    · have := ready_mono hj hji
      rw [H.1] at this
      cases this
  | succ fuel ih =>
    intro listed a w hcl hfree hr hy hS H
    have hTw := hT listed hcl (getD_undone (mem_ready.1 hr).1) w hS
    refine ⟨fun h => (by rw [h] at hr; cases hr), fun j hj => ?_⟩
    by_cases hji : j = i
    · subst hji; exact hy.wpOp hi hTw ⟨fun h => hS (by rwa [hcalm] at h), H⟩
    · have h1 := H.2 j (ready_mono hj hji)
      obtain ⟨hjun, oj, hoj, hall⟩ := mem_ready.1 hj
      have hnot : ∀ e ∈ oj.after, Region.binds .any e = true → e.on ≠ i := fun e he hb heq => by
        have h1 := hall e he hb
        have h0 := (mem_ready.1 hr).1
        rw [heq, getD_undone h0] at h1
        cases h1
      have h2 := wpOp_putIf hoj (hfree j oj hoj hji hjun hnot) (fun cs b => hsel i oi cs b hi) (fun cs b => hsel j oj cs b hoj) hQ hy h1
      have hfree' : ∀ k ok, ops[k]? = some ok → k ≠ i → (listed.setIfInBounds j true).getD k true = false →
          (∀ e ∈ ok.after, Region.binds .any e = true → e.on ≠ i) → oi.apart ops ok = true := fun k ok hk hki hun hno => by
        refine hfree k ok hk hki ?_ hno
        by_cases hjk : j = k
        · subst hjk; exact hjun
        · rw [getD_set_ne true hjk] at hun; exact hun
      refine wpOp_mono (fun a' w' h3 => ?_) h2
      have hS' : calm brk (listed.setIfInBounds j true) = true → S w' := fun hc => h3.2.1 (by
        rw [Array.setIfInBounds_comm _ _ (fun x => hji x.symm), hcalm]; exact hc)
      refine ⟨hS', ih (listed.setIfInBounds j true) a' w' (hcl.set hj) hfree' (ready_mono hr (Ne.symm hji)) h3.1 hS' ?_⟩
      rw [Array.setIfInBounds_comm _ _ hji]
      exact h3.2.2
def plB (ops : Array Oper) (brk : List Nat) : Pl → Nat → Array Bool → Bool
  | .nil, f, L => (Region.ready .any ops L).isEmpty && f == 0
  | .p k t, f, L => match f with
    | 0 => false
    | f + 1 => (ops[k]?).isSome && !(brk.contains k) && Region.free .any ops L k && (Region.ready .any ops L).contains k && plB ops brk t f (L.setIfInBounds k true)
  | .q k t, f, L => match f with
    | 0 => false
    | f + 1 => (ops[k]?).isSome && !(brk.contains k) && brk.all (fun b => ancB ops ops.size k b) && Region.free .any ops L k && (Region.ready .any ops L).contains k && plB ops brk t f (L.setIfInBounds k true)
  | .e k t, f, L => match f with
    | 0 => false
    | f + 1 => decide (Region.ready .any ops L = [k]) && plB ops brk t f (L.setIfInBounds k true)
  | .e2 k t k' t', f, L => match f with
    | 0 => false
    | f + 1 => decide (Region.ready .any ops L = [k, k']) && plB ops brk t f (L.setIfInBounds k true) && plB ops brk t' f (L.setIfInBounds k' true)
  | .e3 k t k' t' k'' t'', f, L => match f with
    | 0 => false
    | f + 1 => decide (Region.ready .any ops L = [k, k', k'']) && plB ops brk t f (L.setIfInBounds k true) && plB ops brk t' f (L.setIfInBounds k' true) && plB ops brk t'' f (L.setIfInBounds k'' true)
def wpPl (P : Program) (ops : Array Oper) (Q : Exit → Act → World → Prop) (S : World → Prop) (brk : List Nat) : Bool → Pl → Act → World → Prop
  | _, .nil, a, w => Q .normal a w
  | c, .p k t, a, w => ∃ o v, ops[k]? = some o ∧ YieldsIf P ops (fun _ => True) o v a ∧ wpPl P ops Q S brk c t (a.put o.dst v) w
  | c, .q k t, a, w => ∃ o v, ops[k]? = some o ∧ YieldsIf P ops S o v a ∧ wpPl P ops Q S brk c t (a.put o.dst v) w
  | c, .e k t, a, w => wpOp P ops Q k (fun a' w' => ((c && !(brk.contains k)) = true → S w') ∧ wpPl P ops Q S brk (c && !(brk.contains k)) t a' w') a w
  | c, .e2 k t k' t', a, w => wpOp P ops Q k (fun a' w' => ((c && !(brk.contains k)) = true → S w') ∧ wpPl P ops Q S brk (c && !(brk.contains k)) t a' w') a w ∧
      wpOp P ops Q k' (fun a' w' => ((c && !(brk.contains k')) = true → S w') ∧ wpPl P ops Q S brk (c && !(brk.contains k')) t' a' w') a w
  | c, .e3 k t k' t' k'' t'', a, w => wpOp P ops Q k (fun a' w' => ((c && !(brk.contains k)) = true → S w') ∧ wpPl P ops Q S brk (c && !(brk.contains k)) t a' w') a w ∧
      wpOp P ops Q k' (fun a' w' => ((c && !(brk.contains k')) = true → S w') ∧ wpPl P ops Q S brk (c && !(brk.contains k')) t' a' w') a w ∧
      wpOp P ops Q k'' (fun a' w' => ((c && !(brk.contains k'')) = true → S w') ∧ wpPl P ops Q S brk (c && !(brk.contains k'')) t'' a' w') a w
theorem calm_set {L : Array Bool} {k : Nat} {c : Bool} (hk : k < L.size) (h : calm brk L = c) : calm brk (L.setIfInBounds k true) = (c && !(brk.contains k)) := by
  unfold calm at h ⊢
  subst h
  rw [Bool.eq_iff_iff, List.all_eq_true, Bool.and_eq_true, List.all_eq_true]
  constructor
  · intro h
    refine ⟨fun b hb => ?_, ?_⟩
    · have h1 := h b hb
      by_cases hkb : k = b
      · subst hkb; simp [hk] at h1
      · rwa [getD_set_ne false hkb] at h1
    · rw [Bool.not_eq_true']
      cases hc : brk.contains k with
      | false => rfl
      | true =>
        have h1 := h k (by simpa using hc)
        simp [hk] at h1
  · rintro ⟨h1, h2⟩ b hb
    have hne : k ≠ b := by
      rintro rfl
      rw [Bool.not_eq_true'] at h2
      simp at h2; exact h2 hb
    rw [getD_set_ne false hne]
    exact h1 b hb
theorem ready_lt {L : Array Bool} {k : Nat} (h : k ∈ Region.ready .any ops L) : k < L.size := by
  have h0 := (mem_ready.1 h).1
  rcases Nat.lt_or_ge k L.size with h' | h'
  · exact h'
  · simp [Array.getElem?_eq_none h'] at h0
theorem wpPl_sound (hs : Region.noSelect ops = true) (hQ : ∀ c a w (d : Option Tmp) v, Q (.panic c) (a.put d v) w → Q (.panic c) a w) : ∀ (t : Pl) (f : Nat) (L : Array Bool) (c : Bool) (a : Act) (w : World), plB ops brk t f L = true → ClosedL ops L → calm brk L = c → (c = true → S w) →
    wpPl P ops Q S brk c t a w → wpAnyC P ops Q S brk f L a w := by
  intro t
  induction t with
  | nil =>
    intro f L c a w hB hcl hcm hS h
    simp only [plB, Bool.and_eq_true, List.isEmpty_iff, beq_iff_eq] at hB
    obtain ⟨h1, rfl⟩ := hB
    exact ⟨h1, h⟩
  | p k t ih =>
    intro f L c a w hB hcl hcm hS h
    rcases f with _ | f
    · cases hB
    simp only [plB, Bool.and_eq_true, Bool.not_eq_true'] at hB
    obtain ⟨⟨⟨⟨h1, h2⟩, h3⟩, h4⟩, h5⟩ := hB
    obtain ⟨o, v, ho, hy, hr⟩ := h
    have hk : k ∈ Region.ready .any ops L := by simpa using h4
    have hcs : calm brk (L.setIfInBounds k true) = c := by rw [calm_set (ready_lt hk) hcm, h2]; simp
    exact wpAnyC_first (T := fun _ => True) ho (Region.noSelect_spec hs) (fun c a w => hQ c a w _ _) h2 (fun _ _ _ _ _ => trivial) f L a w hcl (Region.free_spec ho h3) hk hy (fun hc => hS (by rw [← hcm, hc]))
      (ih f _ c _ w h5 (hcl.set hk) hcs hS hr)
  | q k t ih =>
    intro f L c a w hB hcl hcm hS h
    rcases f with _ | f
    · cases hB
    simp only [plB, Bool.and_eq_true, Bool.not_eq_true'] at hB
    obtain ⟨⟨⟨⟨⟨h1, h2⟩, h6⟩, h3⟩, h4⟩, h5⟩ := hB
    obtain ⟨o, v, ho, hy, hr⟩ := h
    have hk : k ∈ Region.ready .any ops L := by simpa using h4
    have hcs : calm brk (L.setIfInBounds k true) = c := by rw [calm_set (ready_lt hk) hcm, h2]; simp
    exact wpAnyC_first (T := S) ho (Region.noSelect_spec hs) (fun c a w => hQ c a w _ _) h2 (fun L' hL' hun w' hS' => hS' (calm_of hL' h6 hun)) f L a w hcl (Region.free_spec ho h3) hk hy (fun hc => hS (by rw [← hcm, hc]))
      (ih f _ c _ w h5 (hcl.set hk) hcs hS hr)
  | e k t ih =>
    intro f L c a w hB hcl hcm hS h
    rcases f with _ | f
    · cases hB
    simp only [plB, Bool.and_eq_true, decide_eq_true_eq] at hB
    refine ⟨fun h0 => (by rw [hB.1] at h0; cases h0), fun i hi => ?_⟩
    have hi0 := hi
    rw [hB.1] at hi
    obtain rfl : i = k := by simpa using hi
    have hcs := calm_set (brk := brk) (ready_lt hi0) hcm
    exact wpOp_mono (fun a' w' h' => ⟨fun hc => h'.1 (by rw [← hcs]; exact hc), ih f _ _ a' w' hB.2 (hcl.set hi0) hcs h'.1 h'.2⟩) h
  | e2 k t k' t' ih ih' =>
    intro f L c a w hB hcl hcm hS h
    rcases f with _ | f
    · cases hB
    simp only [plB, Bool.and_eq_true, decide_eq_true_eq] at hB
    refine ⟨fun h0 => (by rw [hB.1.1] at h0; cases h0), fun i hi => ?_⟩
    have hi0 := hi
    rw [hB.1.1] at hi
    have hcs := calm_set (brk := brk) (ready_lt hi0) hcm
    simp only [List.mem_cons, List.not_mem_nil, or_false] at hi
    rcases hi with rfl | rfl
    · exact wpOp_mono (fun a' w' h' => ⟨fun hc => h'.1 (by rw [← hcs]; exact hc), ih f _ _ a' w' hB.1.2 (hcl.set hi0) hcs h'.1 h'.2⟩) h.1
    · exact wpOp_mono (fun a' w' h' => ⟨fun hc => h'.1 (by rw [← hcs]; exact hc), ih' f _ _ a' w' hB.2 (hcl.set hi0) hcs h'.1 h'.2⟩) h.2
  | e3 k t k' t' k'' t'' ih ih' ih'' =>
    intro f L c a w hB hcl hcm hS h
    rcases f with _ | f
    · cases hB
    simp only [plB, Bool.and_eq_true, decide_eq_true_eq] at hB
    refine ⟨fun h0 => (by rw [hB.1.1.1] at h0; cases h0), fun i hi => ?_⟩
    have hi0 := hi
    rw [hB.1.1.1] at hi
    have hcs := calm_set (brk := brk) (ready_lt hi0) hcm
    simp only [List.mem_cons, List.not_mem_nil, or_false] at hi
    rcases hi with rfl | rfl | rfl
    · exact wpOp_mono (fun a' w' h' => ⟨fun hc => h'.1 (by rw [← hcs]; exact hc), ih f _ _ a' w' hB.1.1.2 (hcl.set hi0) hcs h'.1 h'.2⟩) h.1
    · exact wpOp_mono (fun a' w' h' => ⟨fun hc => h'.1 (by rw [← hcs]; exact hc), ih' f _ _ a' w' hB.1.2 (hcl.set hi0) hcs h'.1 h'.2⟩) h.2.1
    · exact wpOp_mono (fun a' w' h' => ⟨fun hc => h'.1 (by rw [← hcs]; exact hc), ih'' f _ _ a' w' hB.2 (hcl.set hi0) hcs h'.1 h'.2⟩) h.2.2
theorem closed_start (n : Nat) : ClosedL ops (Array.replicate n false) := fun j o _ h => by
  rcases Nat.lt_or_ge j n with h1 | h1 <;> simp [Array.getD, h1, Nat.not_lt.2] at h
theorem calm_start (n : Nat) : calm brk (Array.replicate n false) = true := by
  unfold calm
  rw [List.all_eq_true]
  intro b _
  rcases Nat.lt_or_ge b n with h1 | h1 <;> simp [Array.getD, h1, Nat.not_lt.2]
theorem wp_region_pl {id : Nat} {a : Act} {w : World} (hm : P.follows .mixedOrders = true) (S : World → Prop) (brk : List Nat) (t : Pl) (hB : (Region.noSelect ops && plB ops brk t ops.size (Array.replicate ops.size false)) = true)
    (hS : S w.drew) (h : wpPl P ops (NoPanic Q) S brk true t a w.drew) : (Code.region id ops true).wp P Q a w := by
  rw [Bool.and_eq_true] at hB
  refine wp_region_noPanic (wp_region_any hm (wpAny_of_C _ _ _ _ (wpPl_sound hB.1 (fun c a w d v h => h) t _ _ true a _ hB.2 (closed_start _) (calm_start _) (fun _ => hS) h)))
theorem wp_region_pls {id : Nat} {a : Act} {w : World} {opl : List Oper} (hm : P.follows .mixedOrders = true) (S : World → Prop) (brk : List Nat) (t : Pl) (hB : (Region.noSelect opl.toArray && plB opl.toArray brk t opl.toArray.size (Array.replicate opl.toArray.size false)) = true)
    (hS : S w.drew) (h : ∀ (ops' : Array Oper) (Q' : Exit → Act → World → Prop), Hid (ops' = opl.toArray) → (∀ a w, Q .normal a w → Q' .normal a w) → ∀ w1, S w1 → wpPl P ops' Q' S brk true t a w1) : (Code.region id opl.toArray true).wp P Q a w :=
  wp_region_pl hm S brk t hB hS (h opl.toArray (NoPanic Q) (Lib.hid rfl) (fun _ _ h => h) _ hS)
theorem ops_at {opl : List Oper} {k : Nat} {o : Oper} (hO : Hid (ops = opl.toArray)) (ho : opl[k]? = some o) : ops[k]? = some o := by rw [hO.out]; simpa using ho
theorem ops_dst {opl : List Oper} {j d : Nat} (hO : Hid (ops = opl.toArray)) (hd : (opl[j]?).bind (·.dst) = some d) : (ops[j]?).bind (·.dst) = some d := by rw [hO.out]; simpa using hd
theorem i64w (n : Int) : IntKind.i64.wrap n = wrap64 n := IntWalk.i64_left n
/-! steps -/
variable {k : Nat} {o : Oper} {t : Pl} {a : Act} {w : World} {c : Bool}
theorem pl_nil (h : Q .normal a w) : wpPl P ops Q S brk c .nil a w := h
theorem pl_p (ho : ops[k]? = some o) (hw : Region.wanted o (yielded ops a.tmps) = true) (v : Value) (hv : ∀ w, (execOp a.eval o).run P w = .ok (.value v) w) (h : wpPl P ops Q S brk c t (a.put o.dst v) w) : wpPl P ops Q S brk c (.p k t) a w :=
  ⟨o, v, ho, .inl ⟨hw, fun w _ => hv w⟩, h⟩
theorem pl_q (ho : ops[k]? = some o) (hw : Region.wanted o (yielded ops a.tmps) = true) (v : Value) (hv : ∀ w, S w → (execOp a.eval o).run P w = .ok (.value v) w) (h : wpPl P ops Q S brk c t (a.put o.dst v) w) : wpPl P ops Q S brk c (.q k t) a w :=
  ⟨o, v, ho, .inl ⟨hw, hv⟩, h⟩
theorem pl_p_no (ho : ops[k]? = some o) (hw : Region.wanted o (yielded ops a.tmps) = false) (h : wpPl P ops Q S brk c t (a.put o.dst undef) w) : wpPl P ops Q S brk c (.p k t) a w :=
  ⟨o, undef, ho, .inr ⟨hw, rfl⟩, h⟩
theorem pl_q_no (ho : ops[k]? = some o) (hw : Region.wanted o (yielded ops a.tmps) = false) (h : wpPl P ops Q S brk c t (a.put o.dst undef) w) : wpPl P ops Q S brk c (.q k t) a w :=
  ⟨o, undef, ho, .inr ⟨hw, rfl⟩, h⟩
theorem pl_e (ho : ops[k]? = some o) (hw : Region.wanted o (yielded ops a.tmps) = true) (hb : (c && !(brk.contains k)) = true)
    (h : ∀ K : Act → World → Prop, (∀ a' w', S w' → (S w' → wpPl P ops Q S brk true t a' w') → K a' w') → o.wp P a w K Q) : wpPl P ops Q S brk c (.e k t) a w := by
  unfold wpPl wpOp
  simp only [ho, hw, if_true, hb]
  exact .inl (h _ fun a' w' h1 h2 => ⟨fun _ => h1, h2 h1⟩)
theorem pl_b (ho : ops[k]? = some o) (hw : Region.wanted o (yielded ops a.tmps) = true) (hb : (c && !(brk.contains k)) = false)
    (h : ∀ K : Act → World → Prop, (∀ a' w', wpPl P ops Q S brk false t a' w' → K a' w') → o.wp P a w K Q) : wpPl P ops Q S brk c (.e k t) a w := by
  unfold wpPl wpOp
  simp only [ho, hw, if_true, hb]
  exact .inl (h _ fun a' w' h2 => ⟨fun h1 => by simp at h1, h2⟩)
theorem pl_e_no (ho : ops[k]? = some o) (hw : Region.wanted o (yielded ops a.tmps) = false) (hb : (c && !(brk.contains k)) = c) (hS : c = true → S w) (h : wpPl P ops Q S brk c t (a.put o.dst undef) w) : wpPl P ops Q S brk c (.e k t) a w := by
  unfold wpPl wpOp
  simp only [ho, hw, hb]
  exact ⟨hS, h⟩
theorem yielded_of {j d : Nat} {b : Bool} {a : Act} (hd : (ops[j]?).bind (·.dst) = some d) (hv : a.eval (.tmp d) = .bool b) : yielded ops a.tmps j = some b := by
  unfold yielded
  rw [hd]
  have h1 : a.tmps.getD d undef = .bool b := hv
  simp only [Option.bind_some]
  by_cases hlt : d < a.tmps.size
  · simp [Array.getD, hlt] at h1
    simp [hlt, h1]
  · simp [Array.getD, hlt] at h1
    cases h1
theorem wanted0 {o : Oper} {y : Nat → Option Bool} (hg : o.guard = none) : Region.wanted o y = true := by unfold Region.wanted; rw [hg]
theorem wanted1 {o : Oper} {j d : Nat} {b : Bool} {a : Act} (hg : o.guard = some (j, b)) (hd : (ops[j]?).bind (·.dst) = some d) (hv : a.eval (.tmp d) = .bool b) : Region.wanted o (yielded ops a.tmps) = true := by
  unfold Region.wanted; rw [hg]; simp only [yielded_of hd hv, beq_self_eq_true]
theorem wantedN {o : Oper} {j d : Nat} {b : Bool} {a : Act} (hg : o.guard = some (j, b)) (hd : (ops[j]?).bind (·.dst) = some d) (hv : a.eval (.tmp d) = .bool (!b)) : Region.wanted o (yielded ops a.tmps) = false := by
  unfold Region.wanted; rw [hg]; simp only [yielded_of hd hv]; cases b <;> rfl
variable {opl : List Oper}
theorem pl_p0 (hO : Hid (ops = opl.toArray)) (ho : opl[k]? = some o) (hg : o.guard = none) (v : Value) (hv : ∀ w, (execOp a.eval o).run P w = .ok (.value v) w) (h : wpPl P ops Q S brk c t (a.put o.dst v) w) : wpPl P ops Q S brk c (.p k t) a w := pl_p (ops_at hO ho) (wanted0 hg) v hv h
theorem pl_q0 (hO : Hid (ops = opl.toArray)) (ho : opl[k]? = some o) (hg : o.guard = none) (v : Value) (hv : ∀ w, S w → (execOp a.eval o).run P w = .ok (.value v) w) (h : wpPl P ops Q S brk c t (a.put o.dst v) w) : wpPl P ops Q S brk c (.q k t) a w := pl_q (ops_at hO ho) (wanted0 hg) v hv h
theorem pl_p1 {j d : Nat} {b : Bool} (hO : Hid (ops = opl.toArray)) (ho : opl[k]? = some o) (hg : o.guard = some (j, b)) (hd : (opl[j]?).bind (·.dst) = some d) (hb : a.eval (.tmp d) = .bool b) (v : Value) (hv : ∀ w, (execOp a.eval o).run P w = .ok (.value v) w) (h : wpPl P ops Q S brk c t (a.put o.dst v) w) : wpPl P ops Q S brk c (.p k t) a w := pl_p (ops_at hO ho) (wanted1 hg (ops_dst hO hd) hb) v hv h
theorem pl_q1 {j d : Nat} {b : Bool} (hO : Hid (ops = opl.toArray)) (ho : opl[k]? = some o) (hg : o.guard = some (j, b)) (hd : (opl[j]?).bind (·.dst) = some d) (hb : a.eval (.tmp d) = .bool b) (v : Value) (hv : ∀ w, S w → (execOp a.eval o).run P w = .ok (.value v) w) (h : wpPl P ops Q S brk c t (a.put o.dst v) w) : wpPl P ops Q S brk c (.q k t) a w := pl_q (ops_at hO ho) (wanted1 hg (ops_dst hO hd) hb) v hv h
theorem pl_pn {j d : Nat} {b : Bool} (hO : Hid (ops = opl.toArray)) (ho : opl[k]? = some o) (hg : o.guard = some (j, b)) (hd : (opl[j]?).bind (·.dst) = some d) (hb : a.eval (.tmp d) = .bool (!b)) (h : wpPl P ops Q S brk c t (a.put o.dst undef) w) : wpPl P ops Q S brk c (.p k t) a w := pl_p_no (ops_at hO ho) (wantedN hg (ops_dst hO hd) hb) h
theorem pl_qn {j d : Nat} {b : Bool} (hO : Hid (ops = opl.toArray)) (ho : opl[k]? = some o) (hg : o.guard = some (j, b)) (hd : (opl[j]?).bind (·.dst) = some d) (hb : a.eval (.tmp d) = .bool (!b)) (h : wpPl P ops Q S brk c t (a.put o.dst undef) w) : wpPl P ops Q S brk c (.q k t) a w := pl_q_no (ops_at hO ho) (wantedN hg (ops_dst hO hd) hb) h
theorem pl_en {j d : Nat} {b : Bool} (hO : Hid (ops = opl.toArray)) (ho : opl[k]? = some o) (hg : o.guard = some (j, b)) (hd : (opl[j]?).bind (·.dst) = some d) (hv : a.eval (.tmp d) = .bool (!b)) (hb : (c && !(brk.contains k)) = c) (hS : c = true → S w) (h : wpPl P ops Q S brk c t (a.put o.dst undef) w) : wpPl P ops Q S brk c (.e k t) a w := pl_e_no (ops_at hO ho) (wantedN hg (ops_dst hO hd) hv) hb hS h
theorem pl_e0 (hO : Hid (ops = opl.toArray)) (ho : opl[k]? = some o) (hg : o.guard = none) (hb : (c && !(brk.contains k)) = true)
    (h : ∀ K : Act → World → Prop, (∀ a' w', S w' → (S w' → wpPl P ops Q S brk true t a' w') → K a' w') → o.wp P a w K Q) : wpPl P ops Q S brk c (.e k t) a w := pl_e (ops_at hO ho) (wanted0 hg) hb h
theorem pl_e1 {j d : Nat} {b : Bool} (hO : Hid (ops = opl.toArray)) (ho : opl[k]? = some o) (hg : o.guard = some (j, b)) (hd : (opl[j]?).bind (·.dst) = some d) (hv : a.eval (.tmp d) = .bool b) (hb : (c && !(brk.contains k)) = true)
    (h : ∀ K : Act → World → Prop, (∀ a' w', S w' → (S w' → wpPl P ops Q S brk true t a' w') → K a' w') → o.wp P a w K Q) : wpPl P ops Q S brk c (.e k t) a w := pl_e (ops_at hO ho) (wanted1 hg (ops_dst hO hd) hv) hb h
theorem pl_b0 (hO : Hid (ops = opl.toArray)) (ho : opl[k]? = some o) (hg : o.guard = none) (hb : (c && !(brk.contains k)) = false)
    (h : ∀ K : Act → World → Prop, (∀ a' w', wpPl P ops Q S brk false t a' w' → K a' w') → o.wp P a w K Q) : wpPl P ops Q S brk c (.e k t) a w := pl_b (ops_at hO ho) (wanted0 hg) hb h
theorem pl_e2 {k' : Nat} {t' : Pl} (h1 : wpPl P ops Q S brk c (.e k t) a w) (h2 : wpPl P ops Q S brk c (.e k' t') a w) : wpPl P ops Q S brk c (.e2 k t k' t') a w := ⟨h1, h2⟩
end
end Go.Proofs.YtcbkaiakdhiloabGreatDoor
namespace Go.Proofs.YtcbkaiakdhiloabGreatDoor
open Go.RowKit Go.Proofs
attribute [local go_sem] bs_size bs_append bs_extract bs_toList
def SlotsOk (cs : Array Value) (n i : Nat) (q : List (List UInt8)) : Prop :=
  (∀ k f, q[k]? = some f → cs[(i + k) % n * 2]? = some (.bool true) ∧ cs[(i + k) % n * 2 + 1]? = some (.string (bs f))) ∧
  (∀ k, q.length ≤ k → k < n → cs[(i + k) % n * 2]? = some (.bool false) ∧ ∃ s, cs[(i + k) % n * 2 + 1]? = some (.string s))
def ringC (g n j i : Nat) : Array Value := #[.slice (some ⟨g, 0, none⟩) n n, .int .i64 (j : Int), .int .i64 (i : Int)]
def RingAt (w : World) (r g n : Nat) (q : List (List UInt8)) : Prop :=
  ∃ (i : Nat) (cs : Array Value), Bk w r 152 (ringC g n ((i + q.length) % n) i) ∧ Bk w g 218 cs ∧ cs.size = n * 2 ∧ i < n ∧ q.length ≤ n ∧ r ≠ g ∧ SlotsOk cs n i q
theorem RingAt.keep {w w' : World} {S : Nat → Prop} {r g n : Nat} {q : List (List UInt8)} (h : RingAt w r g n q) (hf : Fr S w w') (h1 : ¬ S r) (h2 : ¬ S g) : RingAt w' r g n q := by
  obtain ⟨i, cs, a, b, c⟩ := h
  exact ⟨i, cs, a.keep hf h1, b.keep hf h2, c⟩
theorem mod_ne {n i k j : Nat} (hn : 0 < n) (hk : k < n) (hj : j < n) (h : k ≠ j) : (i + k) % n ≠ (i + j) % n := by
  intro e
  have h1 : (i + k) % n = (i % n + k) % n := by simp [Nat.add_mod]
  have h2 : (i + j) % n = (i % n + j) % n := by simp [Nat.add_mod]
  have hi := Nat.mod_lt i hn
  rw [h1, h2] at e
  have f : ∀ x, x < n → (i % n + x) % n = if i % n + x < n then i % n + x else i % n + x - n := by
    intro x hx
    split
    · next h => exact Nat.mod_eq_of_lt h
    · next h => rw [Nat.mod_eq_sub_mod (by omega), Nat.mod_eq_of_lt (by omega)]
  rw [f k hk, f j hj] at e
  split at e <;> split at e <;> omega
theorem slots_put {cs : Array Value} {n i : Nat} {q : List (List UInt8)} {f : List UInt8} (hn : 0 < n) (hs : cs.size = n * 2) (hl : q.length < n) (h : SlotsOk cs n i q) :
    SlotsOk ((cs.setIfInBounds ((i + q.length) % n * 2) (.bool true)).setIfInBounds ((i + q.length) % n * 2 + 1) (.string (bs f))) n i (q ++ [f]) := by
  have hm := Nat.mod_lt (i + q.length) hn
  have other : ∀ k, k < n → k ≠ q.length → ∀ d, d < 2 → ((cs.setIfInBounds ((i + q.length) % n * 2) (.bool true)).setIfInBounds ((i + q.length) % n * 2 + 1) (.string (bs f)))[(i + k) % n * 2 + d]? = cs[(i + k) % n * 2 + d]? := by
    intro k hk hne d hd
    have := mod_ne (i := i) hn hk hl hne
    rw [Array.getElem?_setIfInBounds_ne (by omega), Array.getElem?_setIfInBounds_ne (by omega)]
  have same0 : ((cs.setIfInBounds ((i + q.length) % n * 2) (.bool true)).setIfInBounds ((i + q.length) % n * 2 + 1) (.string (bs f)))[(i + q.length) % n * 2]? = some (.bool true) := by
    rw [Array.getElem?_setIfInBounds_ne (by omega), Array.getElem?_setIfInBounds_self_of_lt (by omega)]
  have same1 : ((cs.setIfInBounds ((i + q.length) % n * 2) (.bool true)).setIfInBounds ((i + q.length) % n * 2 + 1) (.string (bs f)))[(i + q.length) % n * 2 + 1]? = some (.string (bs f)) := by
    rw [Array.getElem?_setIfInBounds_self_of_lt (by simp; omega)]
  refine ⟨fun k x hx => ?_, fun k h1 h2 => ?_⟩
  · by_cases hk : k = q.length
    · subst hk
      rw [List.getElem?_append_right (Nat.le_refl _)] at hx
      simp at hx; subst hx
      exact ⟨same0, same1⟩
    · have hlt : k < q.length := by
        rcases Nat.lt_or_ge k (q ++ [f]).length with h1 | h1
        · simp at h1; omega
        · rw [List.getElem?_eq_none h1] at hx; cases hx
      rw [List.getElem?_append_left hlt] at hx
      have := h.1 k x hx
      have o0 := other k (by omega) hk 0 (by omega)
      have o1 := other k (by omega) hk 1 (by omega)
      simp only [Nat.add_zero] at o0
      rw [o0, o1]; exact this
  · simp only [List.length_append, List.length_cons, List.length_nil] at h1
    have := h.2 k (by omega) h2
    have o0 := other k h2 (by omega) 0 (by omega)
    have o1 := other k h2 (by omega) 1 (by omega)
    simp only [Nat.add_zero] at o0
    rw [o0, o1]; exact this
theorem slots_take {cs : Array Value} {n i : Nat} {q : List (List UInt8)} {f : List UInt8} (hn : 0 < n) (hi : i < n) (hs : cs.size = n * 2) (hl : (f :: q).length ≤ n) (h : SlotsOk cs n i (f :: q)) :
    SlotsOk ((cs.setIfInBounds (i * 2) (.bool false)).setIfInBounds (i * 2 + 1) (.string ⟨#[]⟩)) n ((i + 1) % n) q := by
  simp only [List.length_cons] at hl
  have e : ∀ k, ((i + 1) % n + k) % n = (i + (k + 1)) % n := fun k => by rw [Nat.mod_add_mod]; congr 1; omega
  have e0 : (i + 0) % n = i := by rw [Nat.add_zero, Nat.mod_eq_of_lt hi]
  have other : ∀ k, k + 1 < n → ∀ d, d < 2 → ((cs.setIfInBounds (i * 2) (.bool false)).setIfInBounds (i * 2 + 1) (.string ⟨#[]⟩))[(i + (k + 1)) % n * 2 + d]? = cs[(i + (k + 1)) % n * 2 + d]? := by
    intro k hk d hd
    have := mod_ne (i := i) hn hk hn (Nat.succ_ne_zero k)
    rw [e0] at this
    rw [Array.getElem?_setIfInBounds_ne (by omega), Array.getElem?_setIfInBounds_ne (by omega)]
  refine ⟨fun k x hx => ?_, fun k h1 h2 => ?_⟩
  · have hlt : k < q.length := by
      rcases Nat.lt_or_ge k q.length with h1 | h1
      · exact h1
      · rw [List.getElem?_eq_none h1] at hx; cases hx
    have := h.1 (k + 1) x (by simpa using hx)
    have o0 := other k (by omega) 0 (by omega)
    have o1 := other k (by omega) 1 (by omega)
    simp only [Nat.add_zero] at o0
    rw [e, o0, o1]; exact this
  · rw [e]
    by_cases hk : k + 1 = n
    · have e3 : (i + (k + 1)) % n = i := by rw [hk]; simp [Nat.mod_eq_of_lt hi]
      rw [e3, Array.getElem?_setIfInBounds_ne (by omega), Array.getElem?_setIfInBounds_self_of_lt (by omega), Array.getElem?_setIfInBounds_self_of_lt (by simp; omega)]
      exact ⟨rfl, _, rfl⟩
    · have := h.2 (k + 1) (by simp; omega) (by omega)
      have o0 := other k (by omega) 0 (by omega)
      have o1 := other k (by omega) 1 (by omega)
      simp only [Nat.add_zero] at o0
      rw [o0, o1]; exact this
def putPost (r g n : Nat) (q : List (List UInt8)) (f : List UInt8) (w : World) (e : Ending) (w' : World) : Prop :=
  e = .returned (.bool (decide (q.length < n))) ∧ RingAt w' r g n (if q.length < n then q ++ [f] else q) ∧ Fr (fun b => b = r ∨ b = g) w w'
def takePost (r g n : Nat) (q : List (List UInt8)) (w : World) (e : Ending) (w' : World) : Prop :=
  e = .returned (.tuple #[.string (bs (q.headD [])), .bool (!q.isEmpty)]) ∧ RingAt w' r g n q.tail ∧ Fr (fun b => b = r ∨ b = g) w w'
theorem ringPut (r g n : Nat) (q : List (List UInt8)) (f : List UInt8) (w : World) (hn : 0 < n) (hn2 : n ≤ 1000) (h : RingAt w r g n q) :
    Calls Tryz.prog 145 #[.pointer (some ⟨r, 0, none⟩), .string (bs f)] w (putPost r g n q f w) := by
  obtain ⟨i, cs, hr, hg, hs, hi, hq, hrg, hso⟩ := h
  have hm := Nat.mod_lt (i + q.length) hn
  obtain ⟨j, hj⟩ : ∃ j, (i + q.length) % n = j := ⟨_, rfl⟩
  rw [hj] at hr hm
  have hrc := hr.cells
  have hgf := hg.frees
  by_cases hlt : q.length < n
  · obtain ⟨c0, s0, c1⟩ := hso.2 q.length (Nat.le_refl _) hlt
    rw [hj] at c0 c1
    have hg0 : w.cell? ⟨g, j * 2, none⟩ = some (.bool false) := (hg.cell _).trans c0
    have hg1 : w.cell? ⟨g, j * 2 + 1, none⟩ = some (.string s0) := (hg.cell _).trans c1
    have hne1 : ¬ g = r := fun x => hrg x.symm
    unfold ringC at hrc
    have hfr := hr.frees
    go_enter Tryz.func145, Tryz.ntmps145
    go_wp2_with fail
    go_quiet (fail)
    have hr1 := hr.drewN nq
    have hg1' := hg.drewN nq
    have hf1 : Fr (fun b => b = r ∨ b = g) w (w.drewN nq) := (Fr.refl _ _).drewN nq
    obtain ⟨w1, hw1⟩ : ∃ w1, w.drewN nq = w1 := ⟨_, rfl⟩
    rw [hw1] at hr1 hg1' hf1 ⊢
    clear hw1 hrc hgf hg0 hg1
    have hg0 : w1.cell? ⟨g, j * 2, none⟩ = some (.bool false) := (hg1'.cell _).trans c0
    have hg1 : w1.cell? ⟨g, j * 2 + 1, none⟩ = some (.string s0) := (hg1'.cell _).trans c1
    have hgf := hg1'.frees
    go_upto_region 5 with fail
    have hg5 := (hg1'.set (j * 2) (.bool true)).set (j * 2 + 1) (.string (bs f))
    have hr5 := (hr1.far (p := ⟨g, j * 2, none⟩) hrg (.bool true)).far (p := ⟨g, j * 2 + 1, none⟩) hrg (.string (bs f))
    have hf5 : Fr (fun b => b = r ∨ b = g) w ((w1.setCell ⟨g, j * 2, none⟩ (.bool true)).setCell ⟨g, j * 2 + 1, none⟩ (.string (bs f))) := (hf1.setCell (p := ⟨g, j * 2, none⟩) (fun _ => .inr rfl) _).setCell (p := ⟨g, j * 2 + 1, none⟩) (fun _ => .inr rfl) _
    generalize (w1.setCell ⟨g, j * 2, none⟩ (.bool true)).setCell ⟨g, j * 2 + 1, none⟩ (.string (bs f)) = w5 at *
    clear hg0 hg1 hgf hr1 hg1' hf1 hfr
    have q1 : IntKind.i64.wrap ((j : Int) + 1) = (j : Int) + 1 := IntWalk.i64_in _ (by omega)
    have q3 : ¬ n = 0 := by omega
    refine wp_region_pls (by kernel_rfl) (fun w' => Bk w' r 152 (ringC g n j i) ∧ Bk w' g 218 ((cs.setIfInBounds (j * 2) (.bool true)).setIfInBounds (j * 2 + 1) (.string (bs f))) ∧ Fr (fun b => b = r ∨ b = g) w w') [14] (.p 0 (.p 1 (.p 2 (.p 3 (.p 6 (.p 7 (.p 8 (.q 4 (.p 5 (.q 9 (.p 10 (.p 11 (.p 12 (.p 13 (.e 14 (.nil)))))))))))))))) (by kernel_rfl) (⟨hr5, hg5, hf5.drew⟩) ?_
    intro ops Q' hO hQ' wr1 hR1
    iterate 7 (refine pl_p0 hO rfl rfl ?_ (fun w' => ?_) ?_; rotate_left 1; (focus (go_simp; ((try with_reducible rfl); done))); simp only [Act.put, List.setIfInBounds_toArray, List.set_cons_zero, List.set_cons_succ])
    refine pl_q0 hO rfl rfl ?_ (fun w' hS => ?_) ?_; rotate_left 1; (focus (have hSc := hS.1.cells; unfold ringC at hSc; go_simp; ((try with_reducible rfl); done))); simp only [Act.put, List.setIfInBounds_toArray, List.set_cons_zero, List.set_cons_succ]
    refine pl_p0 hO rfl rfl ?_ (fun w' => ?_) ?_; rotate_left 1; (focus (go_simp; ((try with_reducible rfl); done))); simp only [Act.put, List.setIfInBounds_toArray, List.set_cons_zero, List.set_cons_succ]
    refine pl_q0 hO rfl rfl ?_ (fun w' hS => ?_) ?_; rotate_left 1; (focus (have hSc := hS.1.cells; unfold ringC at hSc; go_simp; ((try with_reducible rfl); done))); simp only [Act.put, List.setIfInBounds_toArray, List.set_cons_zero, List.set_cons_succ]
    iterate 4 (refine pl_p0 hO rfl rfl ?_ (fun w' => ?_) ?_; rotate_left 1; (focus (go_simp; ((try with_reducible rfl); done))); simp only [Act.put, List.setIfInBounds_toArray, List.set_cons_zero, List.set_cons_succ])
    refine pl_b0 hO rfl rfl rfl (fun K hK => ?_)
    have hcz := hR1.1.cells
    have hfz := hR1.1.frees
    unfold ringC at hcz
    go_simp
    refine hK _ _ ?_
    clear hK K
    refine pl_nil (hQ' _ _ ?_)
    obtain ⟨hr6, hg6, hf6⟩ := hR1
    have hr7 := hr6.set 1 (.int .i64 (((j : Int) + 1).tmod (n : Int)))
    have hg7 := hg6.far (p := ⟨r, 1, none⟩) (fun x => hrg x.symm) (.int .i64 (((j : Int) + 1).tmod (n : Int)))
    have hf7 := hf6.setCell (p := ⟨r, 1, none⟩) (fun _ => .inl rfl) (.int .i64 (((j : Int) + 1).tmod (n : Int)))
    have hjm : ((j : Int) + 1).tmod (n : Int) = (((i + (q ++ [f]).length) % n : Nat) : Int) := by
      rw [List.length_append, List.length_cons, List.length_nil, ← Nat.add_assoc, ← Nat.mod_add_mod, hj]; rfl
    have Hjm := Lib.hid hjm
    have hso2 := slots_put (f := f) hn hs hlt hso
    rw [hj] at hso2
    have Hso2 := Lib.hid hso2
    clear hjm hj hso2
    go_wp2_with fail
    go_ret
    unfold putPost
    rw [decide_eq_true hlt, if_pos hlt]
    refine ⟨rfl, ?_, hf7⟩
    refine ⟨i, _, ?_, hg7, by simp [hs], hi, by simp; omega, hrg, ?_⟩
    · rw [show ringC g n ((i + (q ++ [f]).length) % n) i = (ringC g n j i).setIfInBounds 1 (.int .i64 (((i + (q ++ [f]).length) % n : Nat) : Int)) from rfl, ← Hjm.out]; exact hr7
    · exact Hso2.out
  · have hqn : q.length = n := by omega
    obtain ⟨f0, q0⟩ : ∃ f0, q[0]? = some f0 := ⟨_, List.getElem?_eq_getElem (by omega)⟩
    obtain ⟨c0, c1⟩ := hso.1 0 f0 q0
    have hji : j = i := by rw [← hj, hqn]; simp [Nat.mod_eq_of_lt hi]
    rw [Nat.add_zero, Nat.mod_eq_of_lt hi, ← hji] at c0
    have hg0 : w.cell? ⟨g, j * 2, none⟩ = some (.bool true) := (hg.cell _).trans c0
    have hpre := hj
    unfold ringC at hrc
    have Hj := Lib.hid hj
    have Hlt := Lib.hid hlt
    clear hj hpre hji c0 c1 hqn q0 hlt
    go_enter Tryz.func145, Tryz.ntmps145
    go_wp2_with fail
    go_quiet (fail)
    go_wp2_with fail
    go_ret
    unfold putPost
    rw [decide_eq_false Hlt.out, if_neg Hlt.out]
    exact ⟨rfl, ⟨i, cs, by rw [Hj.out]; exact hr.drewN nq, hg.drewN nq, hs, hi, hq, hrg, hso⟩, (Fr.refl _ _).drewN nq⟩
theorem ringTake (r g n : Nat) (q : List (List UInt8)) (w : World) (hn : 0 < n) (hn2 : n ≤ 1000) (h : RingAt w r g n q) :
    Calls Tryz.prog 95 #[.pointer (some ⟨r, 0, none⟩)] w (takePost r g n q w) := by
  obtain ⟨i, cs, hr, hg, hs, hi, hq, hrg, hso⟩ := h
  have hm := Nat.mod_lt (i + q.length) hn
  have hrc := hr.cells
  unfold ringC at hrc
  cases q with
  | nil =>
    obtain ⟨c0, s0, c1⟩ := hso.2 0 (Nat.zero_le _) hn
    rw [Nat.add_zero, Nat.mod_eq_of_lt hi] at c0
    have hg0 : w.cell? ⟨g, i * 2, none⟩ = some (.bool false) := (hg.cell _).trans c0
    clear c0 c1
    go_enter Tryz.func95, Tryz.ntmps95
    go_wp2_with fail
    go_quiet (fail)
    go_wp2_with fail
    go_ret2
    exact ⟨rfl, ⟨i, cs, hr.drewN nq, hg.drewN nq, hs, hi, hq, hrg, hso⟩, (Fr.refl _ _).drewN nq⟩
  | cons f q =>
    obtain ⟨c0, c1⟩ := hso.1 0 f rfl
    simp only [Nat.add_zero, Nat.mod_eq_of_lt hi] at c0 c1
    obtain ⟨j, hj⟩ : ∃ j, (i + (f :: q).length) % n = j := ⟨_, rfl⟩
    rw [hj] at hr hm hrc
    have hg0 : w.cell? ⟨g, i * 2, none⟩ = some (.bool true) := (hg.cell _).trans c0
    have hg1 : w.cell? ⟨g, i * 2 + 1, none⟩ = some (.string (bs f)) := (hg.cell _).trans c1
    have hne1 : ¬ g = r := fun x => hrg x.symm
    have hso2 := slots_take hn hi hs hq hso
    have Hso2 := Lib.hid hso2
    have hjj : j = ((i + 1) % n + q.length) % n := by rw [Nat.mod_add_mod, ← hj]; congr 1; simp only [List.length_cons]; omega
    have Hjj := Lib.hid hjj
    have hq2 : q.length ≤ n := by simp only [List.length_cons] at hq; omega
    clear hso hso2 hjj hj hq
    go_enter Tryz.func95, Tryz.ntmps95
    go_wp2_with fail
    go_quiet (fail)
    have hr1 := hr.drewN nq
    have hg1' := hg.drewN nq
    have hf1 : Fr (fun b => b = r ∨ b = g) w (w.drewN nq) := (Fr.refl _ _).drewN nq
    obtain ⟨w1, hw1⟩ : ∃ w1, w.drewN nq = w1 := ⟨_, rfl⟩
    rw [hw1] at hr1 hg1' hf1 ⊢
    clear hw1 hrc hg0 hg1
    have hg0 : w1.cell? ⟨g, i * 2, none⟩ = some (.bool true) := (hg1'.cell _).trans c0
    have hg1 : w1.cell? ⟨g, i * 2 + 1, none⟩ = some (.string (bs f)) := (hg1'.cell _).trans c1
    have hgf := hg1'.frees
    go_upto_region 6 with fail
    have hg5 := (hg1'.set (i * 2) (.bool false)).set (i * 2 + 1) (.string ⟨#[]⟩)
    have hr5 := (hr1.far (p := ⟨g, i * 2, none⟩) hrg (.bool false)).far (p := ⟨g, i * 2 + 1, none⟩) hrg (.string ⟨#[]⟩)
    have hf5 : Fr (fun b => b = r ∨ b = g) w ((w1.setCell ⟨g, i * 2, none⟩ (.bool false)).setCell ⟨g, i * 2 + 1, none⟩ (.string ⟨#[]⟩)) := (hf1.setCell (p := ⟨g, i * 2, none⟩) (fun _ => .inr rfl) _).setCell (p := ⟨g, i * 2 + 1, none⟩) (fun _ => .inr rfl) _
    generalize (w1.setCell ⟨g, i * 2, none⟩ (.bool false)).setCell ⟨g, i * 2 + 1, none⟩ (.string ⟨#[]⟩) = w5 at *
    clear hg0 hg1 hgf hr1 hg1' hf1
    have q1 : IntKind.i64.wrap ((i : Int) + 1) = (i : Int) + 1 := IntWalk.i64_in _ (by omega)
    have q3 : ¬ n = 0 := by omega
    refine wp_region_pls (by kernel_rfl) (fun w' => Bk w' r 152 (ringC g n j i) ∧ Bk w' g 218 ((cs.setIfInBounds (i * 2) (.bool false)).setIfInBounds (i * 2 + 1) (.string ⟨#[]⟩)) ∧ Fr (fun b => b = r ∨ b = g) w w') [14] (.p 0 (.p 1 (.p 2 (.p 3 (.p 6 (.p 7 (.p 8 (.q 4 (.p 5 (.q 9 (.p 10 (.p 11 (.p 12 (.p 13 (.e 14 (.nil)))))))))))))))) (by kernel_rfl) (⟨hr5, hg5, hf5.drew⟩) ?_
    intro ops Q' hO hQ' wr1 hR1
    iterate 7 (refine pl_p0 hO rfl rfl ?_ (fun w' => ?_) ?_; rotate_left 1; (focus (go_simp; ((try with_reducible rfl); done))); simp only [Act.put, List.setIfInBounds_toArray, List.set_cons_zero, List.set_cons_succ])
    refine pl_q0 hO rfl rfl ?_ (fun w' hS => ?_) ?_; rotate_left 1; (focus (have hSc := hS.1.cells; unfold ringC at hSc; go_simp; ((try with_reducible rfl); done))); simp only [Act.put, List.setIfInBounds_toArray, List.set_cons_zero, List.set_cons_succ]
    refine pl_p0 hO rfl rfl ?_ (fun w' => ?_) ?_; rotate_left 1; (focus (go_simp; ((try with_reducible rfl); done))); simp only [Act.put, List.setIfInBounds_toArray, List.set_cons_zero, List.set_cons_succ]
    refine pl_q0 hO rfl rfl ?_ (fun w' hS => ?_) ?_; rotate_left 1; (focus (have hSc := hS.1.cells; unfold ringC at hSc; go_simp; ((try with_reducible rfl); done))); simp only [Act.put, List.setIfInBounds_toArray, List.set_cons_zero, List.set_cons_succ]
    iterate 4 (refine pl_p0 hO rfl rfl ?_ (fun w' => ?_) ?_; rotate_left 1; (focus (go_simp; ((try with_reducible rfl); done))); simp only [Act.put, List.setIfInBounds_toArray, List.set_cons_zero, List.set_cons_succ])
    refine pl_b0 hO rfl rfl rfl (fun K hK => ?_)
    have hcz := hR1.1.cells
    have hfz := hR1.1.frees
    unfold ringC at hcz
    go_simp
    refine hK _ _ ?_
    clear hK K
    refine pl_nil (hQ' _ _ ?_)
    obtain ⟨hr6, hg6, hf6⟩ := hR1
    have hr7 := hr6.set 2 (.int .i64 (((i : Int) + 1).tmod (n : Int)))
    have hg7 := hg6.far (p := ⟨r, 2, none⟩) (fun x => hrg x.symm) (.int .i64 (((i : Int) + 1).tmod (n : Int)))
    have hf7 := hf6.setCell (p := ⟨r, 2, none⟩) (fun _ => .inl rfl) (.int .i64 (((i : Int) + 1).tmod (n : Int)))
    have hjm : ((i : Int) + 1).tmod (n : Int) = (((i + 1) % n : Nat) : Int) := rfl
    have Hjm := Lib.hid hjm
    clear hjm
    go_wp2_with fail
    go_ret2
    refine ⟨rfl, ⟨(i + 1) % n, _, ?_, hg7, by simp [hs], Nat.mod_lt _ hn, hq2, hrg, Hso2.out⟩, hf7⟩
    rw [List.tail_cons, ← Hjj.out, show ringC g n j ((i + 1) % n) = (ringC g n j i).setIfInBounds 2 (.int .i64 ((((i + 1) % n : Nat)) : Int)) from rfl, ← Hjm.out]
    exact hr7
end Go.Proofs.YtcbkaiakdhiloabGreatDoor
namespace Go.Proofs.YtcbkaiakdhiloabGreatDoor
open Go.RowKit Go.Proofs
attribute [local go_sem] bs_size bs_append bs_extract
def Tabs (w : World) : Prop := Lib.Utf8Tabs 7 8 w
theorem cell_lt' {w : World} {a : Addr} {v : Value} (h : w.cell? a = some v) : a.block < w.heap.size := by
  rcases Nat.lt_or_ge a.block w.heap.size with h1 | h1
  · exact h1
  · unfold World.cell? at h; rw [Array.getElem?_eq_none h1] at h; cases h
theorem Tabs.keep {w w' : World} {S : Nat → Prop} (h : Tabs w) (hf : Fr S w w') (h1 : ¬ S 7) (h2 : ¬ S 8) : Tabs w' := by
  refine ⟨fun c hc => ?_, fun i hi => ⟨?_, ?_⟩⟩
  · have := h.1 c hc; exact (hf.cell (cell_lt' this) h1).trans this
  · have := (h.2 i hi).1; exact (hf.cell (cell_lt' this) h2).trans this
  · have := (h.2 i hi).2; exact (hf.cell (cell_lt' this) h2).trans this
theorem Tabs.lt {w : World} (h : Tabs w) : 7 < w.heap.size ∧ 8 < w.heap.size := ⟨cell_lt' (h.1 0 (by omega)), cell_lt' (h.2 0 (by omega)).1⟩
end Go.Proofs.YtcbkaiakdhiloabGreatDoor
namespace Go.Proofs.YtcbkaiakdhiloabGreatDoor
open Go.RowKit Go.Proofs
def RU (w : World) (g : Nat) (l : List UInt32) : Prop := g < w.heap.size ∧ ∀ (k : Nat) (x : UInt32), l[k]? = some x → w.cell? ⟨g, k, none⟩ = some (.int .u32 (x.toNat : Int))
theorem RU.keep {S : Nat → Prop} {w w' : World} {g : Nat} {l : List UInt32} (h : RU w g l) (hf : Fr S w w') (hg : ¬ S g) : RU w' g l :=
  ⟨Nat.lt_of_lt_of_le h.1 hf.size, fun k x hx => (hf.cell (a := ⟨g, k, none⟩) h.1 hg).trans (h.2 k x hx)⟩
end Go.Proofs.YtcbkaiakdhiloabGreatDoor
