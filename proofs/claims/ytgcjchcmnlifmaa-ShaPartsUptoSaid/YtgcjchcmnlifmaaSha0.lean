/- The sum of a text, plainly; and what the functions of the package sha come to. -/
import Derived.Test.YtgcjchcmnlifmaaAbs22
namespace Go.Sh
open Go Go.Abs

abbrev W32 := BitVec 32

def kk : List W32 := [1116352408#32, 1899447441#32, 3049323471#32, 3921009573#32, 961987163#32, 1508970993#32, 2453635748#32, 2870763221#32, 3624381080#32, 310598401#32, 607225278#32, 1426881987#32, 1925078388#32, 2162078206#32, 2614888103#32, 3248222580#32, 3835390401#32, 4022224774#32, 264347078#32, 604807628#32, 770255983#32, 1249150122#32, 1555081692#32, 1996064986#32, 2554220882#32, 2821834349#32, 2952996808#32, 3210313671#32, 3336571891#32, 3584528711#32, 113926993#32, 338241895#32, 666307205#32, 773529912#32, 1294757372#32, 1396182291#32, 1695183700#32, 1986661051#32, 2177026350#32, 2456956037#32, 2730485921#32, 2820302411#32, 3259730800#32, 3345764771#32, 3516065817#32, 3600352804#32, 4094571909#32, 275423344#32, 430227734#32, 506948616#32, 659060556#32, 883997877#32, 958139571#32, 1322822218#32, 1537002063#32, 1747873779#32, 1955562222#32, 2024104815#32, 2227730452#32, 2361852424#32, 2428436474#32, 2756734187#32, 3204031479#32, 3329325298#32]
def first : List W32 := [1779033703#32, 3144134277#32, 1013904242#32, 2773480762#32, 1359893119#32, 2600822924#32, 528734635#32, 1541459225#32]

/-- The word at a place of a text. -/
def word (s : List UInt8) (i : Nat) : W32 :=
  BitVec.ofNat 32 (s.getD (4 * i) 0).toNat <<< 24 ||| BitVec.ofNat 32 (s.getD (4 * i + 1) 0).toNat <<< 16 ||| BitVec.ofNat 32 (s.getD (4 * i + 2) 0).toNat <<< 8 ||| BitVec.ofNat 32 (s.getD (4 * i + 3) 0).toNat

def s0 (x : W32) : W32 := (x >>> 7 ||| x <<< 25) ^^^ (x >>> 18 ||| x <<< 14) ^^^ x >>> 3
def s1 (y : W32) : W32 := (y >>> 17 ||| y <<< 15) ^^^ (y >>> 19 ||| y <<< 13) ^^^ y >>> 10
def S0 (a : W32) : W32 := (a >>> 2 ||| a <<< 30) ^^^ (a >>> 13 ||| a <<< 19) ^^^ (a >>> 22 ||| a <<< 10)
def S1 (e : W32) : W32 := (e >>> 6 ||| e <<< 26) ^^^ (e >>> 11 ||| e <<< 21) ^^^ (e >>> 25 ||| e <<< 7)
def chs (e f g : W32) : W32 := (e &&& f) ^^^ (~~~e &&& g)
def maj (a b c : W32) : W32 := (a &&& b) ^^^ (a &&& c) ^^^ (b &&& c)

/-- The words of a block: so many of them. -/
def wl (s : List UInt8) : Nat → List W32
  | 0 => []
  | n + 1 =>
    let l := wl s n
    l ++ [if n < 16 then word s n else l.getD (n - 16) 0 + s0 (l.getD (n - 15) 0) + l.getD (n - 7) 0 + s1 (l.getD (n - 2) 0)]

structure St where
  a : W32
  b : W32
  c : W32
  d : W32
  e : W32
  f : W32
  g : W32
  h : W32

def St.go (s : St) (k w : W32) : St :=
  let x := s.h + S1 s.e + chs s.e s.f s.g + k + w
  let y := S0 s.a + maj s.a s.b s.c
  ⟨x + y, s.a, s.b, s.c, s.d + x, s.e, s.f, s.g⟩

def rounds (l : List W32) (s : St) : Nat → St
  | 0 => s
  | n + 1 => (rounds l s n).go (kk.getD n 0) (l.getD n 0)

def St.of (h : List W32) : St := ⟨h.getD 0 0, h.getD 1 0, h.getD 2 0, h.getD 3 0, h.getD 4 0, h.getD 5 0, h.getD 6 0, h.getD 7 0⟩

/-- What eight words become by a block. -/
def work (h : List W32) (s : List UInt8) : List W32 :=
  let r := rounds (wl s 64) (St.of h) 64
  [h.getD 0 0 + r.a, h.getD 1 0 + r.b, h.getD 2 0 + r.c, h.getD 3 0 + r.d, h.getD 4 0 + r.e, h.getD 5 0 + r.f, h.getD 6 0 + r.g, h.getD 7 0 + r.h]

def zeros (n : Nat) : Nat := (119 - n % 64) % 64
def be64 (n : Nat) : List UInt8 := [56, 48, 40, 32, 24, 16, 8, 0].map fun i => UInt8.ofNat (n / 2 ^ i)
/-- What stands behind a text of so many bytes. -/
def tailB (n : Nat) : List UInt8 := 128 :: List.replicate (zeros n) 0 ++ be64 (n * 8)

/-- So many blocks eaten. -/
def eat : Nat → List W32 → List UInt8 → List W32
  | 0, h, _ => h
  | k + 1, h, s => eat k (work h (s.take 64)) (s.drop 64)

def bytes4 (w : W32) : List UInt8 := [UInt8.ofNat (w >>> 24).toNat, UInt8.ofNat (w >>> 16).toNat, UInt8.ofNat (w >>> 8).toNat, UInt8.ofNat w.toNat]
def digest (h : List W32) : List UInt8 := (h.map bytes4).flatten

def pad (s : List UInt8) : List UInt8 := s ++ tailB s.length
def sum (s : List UInt8) : List UInt8 := digest (eat ((pad s).length / 64) first (pad s))

theorem work_len (h : List W32) (s : List UInt8) : (work h s).length = 8 := rfl
theorem eat_len (k : Nat) : ∀ (h : List W32) (s : List UInt8), h.length = 8 → (eat k h s).length = 8 := by
  induction k with
  | zero => intro h s hh; exact hh
  | succ k ih => intro h s _; exact ih _ _ (work_len _ _)
theorem digest_len {h : List W32} (hh : h.length = 8) : (digest h).length = 32 := by
  match h, hh with
  | [_, _, _, _, _, _, _, _], _ => rfl
theorem sum_len (s : List UInt8) : (sum s).length = 32 := digest_len (eat_len _ _ _ rfl)
theorem tailB_len (n : Nat) : (tailB n).length = 9 + zeros n := by simp [tailB, be64]; omega
theorem pad_mod (s : List UInt8) : (pad s).length % 64 = 0 := by
  simp only [pad, List.length_append, tailB_len, zeros]; omega

theorem eat_add (a b : Nat) : ∀ (h : List W32) (s : List UInt8), eat (a + b) h s = eat b (eat a h s) (s.drop (64 * a)) := by
  induction a with
  | zero => intro h s; simp [eat]
  | succ a ih =>
    intro h s
    rw [show a + 1 + b = (a + b) + 1 by omega]
    simp only [eat]
    rw [ih, List.drop_drop]
    congr 2
    omega
theorem eat_app (a : Nat) : ∀ (h : List W32) (s t : List UInt8), 64 * a ≤ s.length → eat a h (s ++ t) = eat a h s := by
  induction a with
  | zero => intro h s t _; rfl
  | succ a ih =>
    intro h s t hl
    simp only [eat]
    rw [List.take_append_of_le_length (by omega), List.drop_append_of_le_length (by omega), ih _ _ _ (by simp; omega)]

def S_sha_Words : Abs.Spec := fun args H r H' => args = [] ∧ r = .agg (first.map U) ∧ H' = H
def S_sha_constants : Abs.Spec := fun args H r H' => args = [] ∧ r = .agg (kk.map U) ∧ H' = H
def S_sha_work : Abs.Spec := fun args H r H' => ∃ h s, args = [.agg (h.map U), .str s] ∧ h.length = 8 ∧ s.length = 64 ∧ r = .agg ((work h s).map U) ∧ H' = H
def S_sha_tail : Abs.Spec := fun args H r H' => ∃ n : Nat, args = [.int .i64 n] ∧ n ≤ 1099511627776 ∧ r = .str (tailB n) ∧ H' = H
def S_sha_digest : Abs.Spec := fun args H r H' => ∃ h, args = [.agg (h.map U)] ∧ h.length = 8 ∧ r = .agg ((digest h).map ofByte) ∧ H' = H
def S_sha_Sum : Abs.Spec := fun args H r H' => ∃ s, args = [.str s] ∧ s.length ≤ 1099511627776 ∧ r = .agg ((sum s).map ofByte) ∧ H' = H

end Go.Sh
