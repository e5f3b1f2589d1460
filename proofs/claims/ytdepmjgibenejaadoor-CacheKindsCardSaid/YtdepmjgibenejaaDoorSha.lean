/- SHA-256 in plain numbers, as the program and the document's answer reckon it: words are integers from 0 to 2^32 - 1. -/
import Derived.WalkKit
namespace Go.Proofs.YtdepmjgibenejaaDoor
def vals (l : List Int) : Array Value := (l.map (Value.int .u32)).toArray
def rotr (x n : Int) : Int := bits .or .u32 (x / 2 ^ n.toNat) (x * 2 ^ (32 - n).toNat % 4294967296)
/-- a word out of four bytes -/
def word4 (a b c d : Int) : Int := bits .or .u32 (bits .or .u32 (bits .or .u32 (a % 4294967296 * 16777216 % 4294967296) (b % 4294967296 * 65536 % 4294967296)) (c % 4294967296 * 256 % 4294967296)) (d % 4294967296)
def word (b : List Int) (t : Nat) : Int := word4 (b.getD (4 * t) 0) (b.getD (4 * t + 1) 0) (b.getD (4 * t + 2) 0) (b.getD (4 * t + 3) 0)
/-- the first t words of a block -/
def sch1 (b : List Int) : Nat → List Int
  | 0 => List.replicate 64 0
  | t + 1 => (sch1 b t).set t (word b t)
def mix4 (x0 x1 x2 x3 : Int) : Int :=
  (x0 + bits .xor .u32 (bits .xor .u32 (rotr x1 7) (rotr x1 18)) (x1 / 8) + x2 + bits .xor .u32 (bits .xor .u32 (rotr x3 17) (rotr x3 19)) (x3 / 1024)) % 4294967296
def mixAt (l : List Int) (t : Nat) : Int := mix4 (l.getD (t - 16) 0) (l.getD (t - 15) 0) (l.getD (t - 7) 0) (l.getD (t - 2) 0)
def sch2 (b : List Int) : Nat → List Int
  | 0 => sch1 b 16
  | n + 1 => (sch2 b n).set (16 + n) (mixAt (sch2 b n) (16 + n))
def sched (b : List Int) : List Int := sch2 b 48
def ktab : List Int := [1116352408, 1899447441, 3049323471, 3921009573, 961987163, 1508970993, 2453635748, 2870763221, 3624381080, 310598401, 607225278, 1426881987, 1925078388, 2162078206, 2614888103, 3248222580, 3835390401, 4022224774, 264347078, 604807628, 770255983, 1249150122, 1555081692, 1996064986, 2554220882, 2821834349, 2952996808, 3210313671, 3336571891, 3584528711, 113926993, 338241895, 666307205, 773529912, 1294757372, 1396182291, 1695183700, 1986661051, 2177026350, 2456956037, 2730485921, 2820302411, 3259730800, 3345764771, 3516065817, 3600352804, 4094571909, 275423344, 430227734, 506948616, 659060556, 883997877, 958139571, 1322822218, 1537002063, 1747873779, 1955562222, 2024104815, 2227730452, 2361852424, 2428436474, 2756734187, 3204031479, 3329325298]
/-- the eight words that turn -/
structure R8 where
  a : Int
  b : Int
  c : Int
  d : Int
  e : Int
  f : Int
  g : Int
  h : Int
def R8.list (s : R8) : List Int := [s.a, s.b, s.c, s.d, s.e, s.f, s.g, s.h]
def rndX (kt wt : Int) (s : R8) : Int :=
  (s.h + bits .xor .u32 (bits .xor .u32 (rotr s.e 6) (rotr s.e 11)) (rotr s.e 25) + bits .xor .u32 (bits .and .u32 s.e s.f) (bits .and .u32 (bits .xor .u32 (if IntKind.u32.signed = true then -1 else IntKind.u32.max) s.e) s.g) + kt + wt) % 4294967296
def rndY (s : R8) : Int :=
  (bits .xor .u32 (bits .xor .u32 (rotr s.a 2) (rotr s.a 13)) (rotr s.a 22) + bits .xor .u32 (bits .xor .u32 (bits .and .u32 s.a s.b) (bits .and .u32 s.a s.c)) (bits .and .u32 s.b s.c)) % 4294967296
def rnd (kt wt : Int) (s : R8) : R8 := ⟨(rndX kt wt s + rndY s) % 4294967296, s.a, s.b, s.c, (s.d + rndX kt wt s) % 4294967296, s.e, s.f, s.g⟩
def rnds (W : List Int) (s : R8) : Nat → R8
  | 0 => s
  | t + 1 => rnd (ktab.getD t 0) (W.getD t 0) (rnds W s t)
def R8.add (s v : R8) : R8 := ⟨(s.a + v.a) % 4294967296, (s.b + v.b) % 4294967296, (s.c + v.c) % 4294967296, (s.d + v.d) % 4294967296, (s.e + v.e) % 4294967296, (s.f + v.f) % 4294967296, (s.g + v.g) % 4294967296, (s.h + v.h) % 4294967296⟩
/-- the eight words behind a block -/
def blk (s : R8) (b : List Int) : R8 := s.add (rnds (sched b) s 64)
theorem sch1_length (b : List Int) (t : Nat) : (sch1 b t).length = 64 := by
  induction t with
  | zero => simp [sch1]
  | succ t ih => simp [sch1, ih]
theorem sch2_length (b : List Int) (t : Nat) : (sch2 b t).length = 64 := by
  induction t with
  | zero => simp [sch2, sch1_length]
  | succ t ih => simp [sch2, ih]
theorem vals_get (l : List Int) (t : Nat) (h : t < l.length) : (vals l)[t]? = some (.int .u32 (l.getD t 0)) := by
  simp [vals, h]
theorem vals_set (l : List Int) (t : Nat) (x : Int) : (vals l).setIfInBounds t (.int .u32 x) = vals (l.set t x) := by
  apply Array.ext'
  simp [vals]
end Go.Proofs.YtdepmjgibenejaaDoor
