/-
  The sums of layer 2 in plain lists of numbers: words, rounds, blocks, a text filled up; the state behind so many blocks hangs on these blocks alone.
-/
import Derived.KernelRfl
namespace Go.Proofs.Ytobgnmellbgfmaa.B
set_option linter.unusedVariables false

def rr (x : Int) (n : Nat) : Int := x / 2 ^ n + (x % 2 ^ n) * 2 ^ (32 - n)
def xr (a b : Int) : Int := ((a.toNat ^^^ b.toNat : Nat) : Int)
def an (a b : Int) : Int := ((a.toNat &&& b.toNat : Nat) : Int)
def sg0 (x : Int) : Int := xr (xr (rr x 7) (rr x 18)) (x / 8)
def sg1 (x : Int) : Int := xr (xr (rr x 17) (rr x 19)) (x / 1024)
def bs1 (x : Int) : Int := xr (xr (rr x 6) (rr x 11)) (rr x 25)
def bs0 (x : Int) : Int := xr (xr (rr x 2) (rr x 13)) (rr x 22)
def chs (e f g : Int) : Int := xr (an e f) (an (4294967295 - e) g)
def mjs (a b c : Int) : Int := xr (xr (an a b) (an a c)) (an b c)
def shaK : List Int := [1116352408, 1899447441, 3049323471, 3921009573, 961987163, 1508970993, 2453635748, 2870763221, 3624381080, 310598401, 607225278, 1426881987, 1925078388, 2162078206, 2614888103, 3248222580, 3835390401, 4022224774, 264347078, 604807628, 770255983, 1249150122, 1555081692, 1996064986, 2554220882, 2821834349, 2952996808, 3210313671, 3336571891, 3584528711, 113926993, 338241895, 666307205, 773529912, 1294757372, 1396182291, 1695183700, 1986661051, 2177026350, 2456956037, 2730485921, 2820302411, 3259730800, 3345764771, 3516065817, 3600352804, 4094571909, 275423344, 430227734, 506948616, 659060556, 883997877, 958139571, 1322822218, 1537002063, 1747873779, 1955562222, 2024104815, 2227730452, 2361852424, 2428436474, 2756734187, 3204031479, 3329325298]
def shaH : List Int := [1779033703, 3144134277, 1013904242, 2773480762, 1359893119, 2600822924, 528734635, 1541459225]
/-- A block's next word. -/
def nextW (b l : List Int) : Int :=
  if l.length < 16 then b.getD (4 * l.length) 0 * 16777216 + b.getD (4 * l.length + 1) 0 * 65536 + b.getD (4 * l.length + 2) 0 * 256 + b.getD (4 * l.length + 3) 0
  else (l.getD (l.length - 16) 0 + sg0 (l.getD (l.length - 15) 0) + l.getD (l.length - 7) 0 + sg1 (l.getD (l.length - 2) 0)) % 4294967296
/-- A block's first words. -/
def wd (b : List Int) : Nat → List Int
  | 0 => []
  | n + 1 => wd b n ++ [nextW b (wd b n)]
/-- One round. -/
def rnd (x : List Int) (k w : Int) : List Int :=
  [(x.getD 7 0 + bs1 (x.getD 4 0) + chs (x.getD 4 0) (x.getD 5 0) (x.getD 6 0) + k + w + (bs0 (x.getD 0 0) + mjs (x.getD 0 0) (x.getD 1 0) (x.getD 2 0))) % 4294967296, x.getD 0 0, x.getD 1 0, x.getD 2 0,
   (x.getD 3 0 + (x.getD 7 0 + bs1 (x.getD 4 0) + chs (x.getD 4 0) (x.getD 5 0) (x.getD 6 0) + k + w)) % 4294967296, x.getD 4 0, x.getD 5 0, x.getD 6 0]
def rnds (w h : List Int) : Nat → List Int
  | 0 => h
  | i + 1 => rnd (rnds w h i) (shaK.getD i 0) (w.getD i 0)
def adds (h x : List Int) : List Int := List.zipWith (fun a c => (a + c) % 4294967296) h x
/-- A state behind one block. -/
def turn (h b : List Int) : List Int := adds h (rnds (wd b 64) h 64)
/-- The state behind the first n blocks. -/
def shaN (bs : List Int) : Nat → List Int
  | 0 => shaH
  | n + 1 => turn (shaN bs n) ((bs.drop (64 * n)).take 64)
def be4 (x : Int) : List Int := [x / 16777216 % 256, x / 65536 % 256, x / 256 % 256, x % 256]
def be8 (n : Int) : List Int := (List.range 8).map fun i => n / 2 ^ (56 - 8 * i) % 256
/-- How many bytes 0. -/
def gap (n : Nat) : Nat := (119 - n % 64) % 64
/-- A text, filled up. -/
def fill (bs : List Int) : List Int := bs ++ [128] ++ List.replicate (gap bs.length) 0 ++ be8 (8 * bs.length)
def shaW (bs : List Int) : List Int := shaN (fill bs) ((bs.length + 72) / 64)
/-- A text's sum. -/
def sha (bs : List Int) : List Int := (shaW bs).flatMap be4
end Go.Proofs.Ytobgnmellbgfmaa.B
