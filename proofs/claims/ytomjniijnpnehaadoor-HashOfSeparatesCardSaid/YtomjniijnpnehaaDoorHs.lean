/-
  SHA-256, plain: the message schedule, the rounds, the padding, the sum, the code of a key. Conditions: none.
-/
import Derived.Test.YtomjniijnpnehaaDoorHw
namespace Go.Proofs.YtomjniijnpnehaaDoor.Pu
open Go

/-- four bytes, the first one the highest -/
def be32 (a b c d : UInt8) : UInt32 := a.toUInt32 <<< 24 ||| b.toUInt32 <<< 16 ||| c.toUInt32 <<< 8 ||| d.toUInt32
def sg0 (x : UInt32) : UInt32 := rr x 7 ^^^ rr x 18 ^^^ x >>> 3
def sg1 (x : UInt32) : UInt32 := rr x 17 ^^^ rr x 19 ^^^ x >>> 10
def gw (l : List UInt32) (i : Nat) : UInt32 := l.getD i 0
def gb (l : List UInt8) (i : Nat) : UInt8 := l.getD i 0
def nextw (l : List UInt32) : UInt32 := gw l (l.length - 16) + sg0 (gw l (l.length - 15)) + gw l (l.length - 7) + sg1 (gw l (l.length - 2))
def growW : Nat → List UInt32 → List UInt32
  | 0, l => l
  | k + 1, l => growW k (l ++ [nextw l])
def w16 (b : List UInt8) : Nat → List UInt32
  | 0 => []
  | k + 1 => w16 b k ++ [be32 (gb b (4 * k)) (gb b (4 * k + 1)) (gb b (4 * k + 2)) (gb b (4 * k + 3))]
/-- the first t words of a block's schedule -/
def sched (b : List UInt8) (t : Nat) : List UInt32 := growW (t - 16) (w16 b (min t 16))

structure S8 where
  (a b c d e f g h : UInt32)
deriving DecidableEq

def kk : List UInt32 := [
  0x428a2f98, 0x71374491, 0xb5c0fbcf, 0xe9b5dba5, 0x3956c25b, 0x59f111f1, 0x923f82a4, 0xab1c5ed5,
  0xd807aa98, 0x12835b01, 0x243185be, 0x550c7dc3, 0x72be5d74, 0x80deb1fe, 0x9bdc06a7, 0xc19bf174,
  0xe49b69c1, 0xefbe4786, 0x0fc19dc6, 0x240ca1cc, 0x2de92c6f, 0x4a7484aa, 0x5cb0a9dc, 0x76f988da,
  0x983e5152, 0xa831c66d, 0xb00327c8, 0xbf597fc7, 0xc6e00bf3, 0xd5a79147, 0x06ca6351, 0x14292967,
  0x27b70a85, 0x2e1b2138, 0x4d2c6dfc, 0x53380d13, 0x650a7354, 0x766a0abb, 0x81c2c92e, 0x92722c85,
  0xa2bfe8a1, 0xa81a664b, 0xc24b8b70, 0xc76c51a3, 0xd192e819, 0xd6990624, 0xf40e3585, 0x106aa070,
  0x19a4c116, 0x1e376c08, 0x2748774c, 0x34b0bcb5, 0x391c0cb3, 0x4ed8aa4a, 0x5b9cca4f, 0x682e6ff3,
  0x748f82ee, 0x78a5636f, 0x84c87814, 0x8cc70208, 0x90befffa, 0xa4506ceb, 0xbef9a3f7, 0xc67178f2]
def tx (s : S8) (k w : UInt32) : UInt32 := s.h + (rr s.e 6 ^^^ rr s.e 11 ^^^ rr s.e 25) + ((s.e &&& s.f) ^^^ (~~~s.e &&& s.g)) + k + w
def ty (s : S8) : UInt32 := (rr s.a 2 ^^^ rr s.a 13 ^^^ rr s.a 22) + ((s.a &&& s.b) ^^^ (s.a &&& s.c) ^^^ (s.b &&& s.c))
def rnd (s : S8) (k w : UInt32) : S8 := ⟨tx s k w + ty s, s.a, s.b, s.c, s.d + tx s k w, s.e, s.f, s.g⟩
/-- t rounds -/
def rnds (s : S8) (w : List UInt32) : Nat → S8
  | 0 => s
  | t + 1 => rnd (rnds s w t) (gw kk t) (gw w t)
def addS (s r : S8) : S8 := ⟨s.a + r.a, s.b + r.b, s.c + r.c, s.d + r.d, s.e + r.e, s.f + r.f, s.g + r.g, s.h + r.h⟩
def comp (s : S8) (b : List UInt8) : S8 := addS s (rnds s (sched b 64) 64)
def h0 : S8 := ⟨0x6a09e667, 0xbb67ae85, 0x3c6ef372, 0xa54ff53a, 0x510e527f, 0x9b05688c, 0x1f83d9ab, 0x5be0cd19⟩
/-- k blocks -/
def comps (s : S8) (m : List UInt8) : Nat → S8
  | 0 => s
  | k + 1 => comp (comps s m k) ((m.drop (64 * k)).take 64)
def be64 (n : Nat) : List UInt8 := be n 8
def padTail (n : Nat) : List UInt8 := 128 :: (List.replicate ((119 - n % 64) % 64) 0 ++ be64 (8 * n))
def padded (m : List UInt8) : List UInt8 := m ++ padTail m.length
def outW (x : UInt32) : List UInt8 := [bt ((x >>> 24).toNat : Int), bt ((x >>> 16).toNat : Int), bt ((x >>> 8).toNat : Int), bt (x.toNat : Int)]
def outS (s : S8) : List UInt8 := [s.a, s.b, s.c, s.d, s.e, s.f, s.g, s.h].flatMap outW
def sha (m : List UInt8) : List UInt8 := outS (comps h0 (padded m) ((padded m).length / 64))
def padKey (key : List UInt8) (c : UInt8) : List UInt8 := let k := if 64 < key.length then sha key else key; (k ++ List.replicate (64 - k.length) 0).map (· ^^^ c)
def mac (key text : List UInt8) : List UInt8 := sha (padKey key 0x5c ++ sha (padKey key 0x36 ++ text))

set_option maxRecDepth 100000 in
theorem sha_abc : sha [97, 98, 99] = [186, 120, 22, 191, 143, 1, 207, 234, 65, 65, 64, 222, 93, 174, 34, 35, 176, 3, 97, 163, 150, 23, 122, 156, 180, 16, 255, 97, 242, 0, 21, 173] := by kernel_rfl
end Go.Proofs.YtomjniijnpnehaaDoor.Pu
