/- SHA-256 as a plain function on lists of bytes. No program in sight. -/
namespace Go.Proofs.YtcpcnfedbffecaaDoor.Sha
abbrev W := UInt32
def rot (x : W) (n : W) : W := (x >>> n) ||| (x <<< (32 - n))
def K : List W := [0x428a2f98, 0x71374491, 0xb5c0fbcf, 0xe9b5dba5, 0x3956c25b, 0x59f111f1, 0x923f82a4, 0xab1c5ed5, 0xd807aa98, 0x12835b01, 0x243185be, 0x550c7dc3, 0x72be5d74, 0x80deb1fe, 0x9bdc06a7, 0xc19bf174,
  0xe49b69c1, 0xefbe4786, 0x0fc19dc6, 0x240ca1cc, 0x2de92c6f, 0x4a7484aa, 0x5cb0a9dc, 0x76f988da, 0x983e5152, 0xa831c66d, 0xb00327c8, 0xbf597fc7, 0xc6e00bf3, 0xd5a79147, 0x06ca6351, 0x14292967,
  0x27b70a85, 0x2e1b2138, 0x4d2c6dfc, 0x53380d13, 0x650a7354, 0x766a0abb, 0x81c2c92e, 0x92722c85, 0xa2bfe8a1, 0xa81a664b, 0xc24b8b70, 0xc76c51a3, 0xd192e819, 0xd6990624, 0xf40e3585, 0x106aa070,
  0x19a4c116, 0x1e376c08, 0x2748774c, 0x34b0bcb5, 0x391c0cb3, 0x4ed8aa4a, 0x5b9cca4f, 0x682e6ff3, 0x748f82ee, 0x78a5636f, 0x84c87814, 0x8cc70208, 0x90befffa, 0xa4506ceb, 0xbef9a3f7, 0xc67178f2]
def H0 : List W := [0x6a09e667, 0xbb67ae85, 0x3c6ef372, 0xa54ff53a, 0x510e527f, 0x9b05688c, 0x1f83d9ab, 0x5be0cd19]
def word (b : List UInt8) (t : Nat) : W := ((b.getD (4 * t) 0).toUInt32 <<< 24) ||| ((b.getD (4 * t + 1) 0).toUInt32 <<< 16) ||| ((b.getD (4 * t + 2) 0).toUInt32 <<< 8) ||| (b.getD (4 * t + 3) 0).toUInt32
def sig1 (x : W) : W := rot x 17 ^^^ rot x 19 ^^^ (x >>> 10)
def sig0 (x : W) : W := rot x 7 ^^^ rot x 18 ^^^ (x >>> 3)
/-- The next word of the schedule. -/
def more (b : List UInt8) (w : List W) : W :=
  if w.length < 16 then word b w.length
  else sig1 (w.getD (w.length - 2) 0) + w.getD (w.length - 7) 0 + sig0 (w.getD (w.length - 15) 0) + w.getD (w.length - 16) 0
def sched (b : List UInt8) : Nat → List W
  | 0 => []
  | n + 1 => sched b n ++ [more b (sched b n)]
structure V where
  a : W
  b : W
  c : W
  d : W
  e : W
  f : W
  g : W
  h : W
def round (v : V) (k w : W) : V :=
  let t1 := v.h + (rot v.e 6 ^^^ rot v.e 11 ^^^ rot v.e 25) + ((v.e &&& v.f) ^^^ (~~~v.e &&& v.g)) + k + w
  let t2 := (rot v.a 2 ^^^ rot v.a 13 ^^^ rot v.a 22) + ((v.a &&& v.b) ^^^ (v.a &&& v.c) ^^^ (v.b &&& v.c))
  ⟨t1 + t2, v.a, v.b, v.c, v.d + t1, v.e, v.f, v.g⟩
def rounds (w : List W) : Nat → V → V
  | 0, v => v
  | n + 1, v => round (rounds w n v) (K.getD n 0) (w.getD n 0)
def V.list (v : V) : List W := [v.a, v.b, v.c, v.d, v.e, v.f, v.g, v.h]
def V.of (l : List W) : V := ⟨l.getD 0 0, l.getD 1 0, l.getD 2 0, l.getD 3 0, l.getD 4 0, l.getD 5 0, l.getD 6 0, l.getD 7 0⟩
def V.add (v u : V) : V := ⟨v.a + u.a, v.b + u.b, v.c + u.c, v.d + u.d, v.e + u.e, v.f + u.f, v.g + u.g, v.h + u.h⟩
def block (v : V) (b : List UInt8) : V := v.add (rounds (sched b 64) 64 v)
/-- The first n blocks of l. -/
def blocks : Nat → V → List UInt8 → V
  | 0, v, _ => v
  | n + 1, v, l => block (blocks n v l) ((l.drop (64 * n)).take 64)
def run (v : V) (l : List UInt8) : V := blocks (l.length / 64) v l
def be8 (n : Nat) : List UInt8 := [7, 6, 5, 4, 3, 2, 1, 0].map fun i => UInt8.ofNat (n / 2 ^ (8 * i))
def zeros (n : Nat) : Nat := (119 - n % 64) % 64
def pad (n : Nat) : List UInt8 := [128] ++ List.replicate (zeros n) 0 ++ be8 (8 * n)
def bytes (v : V) : List UInt8 := v.list.flatMap fun (w : W) => [(w >>> 24).toUInt8, (w >>> 16).toUInt8, (w >>> 8).toUInt8, w.toUInt8]
def iv : V := V.of H0
def sum (l : List UInt8) : List UInt8 := bytes (run iv (l ++ pad l.length))
def hexd : List UInt8 := [48, 49, 50, 51, 52, 53, 54, 55, 56, 57, 97, 98, 99, 100, 101, 102]
def hex (l : List UInt8) : List UInt8 := l.flatMap fun b => [hexd.getD (b.toNat / 16) 0, hexd.getD (b.toNat % 16) 0]
theorem sched_length (b : List UInt8) : ∀ n, (sched b n).length = n
  | 0 => rfl
  | n + 1 => by simp [sched, sched_length b n]
theorem abc : hex (sum [97, 98, 99]) = [98, 97, 55, 56, 49, 54, 98, 102, 56, 102, 48, 49, 99, 102, 101, 97, 52, 49, 52, 49, 52, 48, 100, 101, 53, 100, 97, 101, 50, 50, 50, 51, 98, 48, 48, 51, 54, 49, 97, 51, 57, 54, 49, 55, 55, 97, 57, 99, 98, 52, 49, 48, 102, 102, 54, 49, 102, 50, 48, 48, 49, 53, 97, 100] := by decide +kernel
theorem nothing : hex (sum []) = [101, 51, 98, 48, 99, 52, 52, 50, 57, 56, 102, 99, 49, 99, 49, 52, 57, 97, 102, 98, 102, 52, 99, 56, 57, 57, 54, 102, 98, 57, 50, 52, 50, 55, 97, 101, 52, 49, 101, 52, 54, 52, 57, 98, 57, 51, 52, 99, 97, 52, 57, 53, 57, 57, 49, 98, 55, 56, 53, 50, 98, 56, 53, 53] := by decide +kernel
end Go.Proofs.YtcpcnfedbffecaaDoor.Sha
