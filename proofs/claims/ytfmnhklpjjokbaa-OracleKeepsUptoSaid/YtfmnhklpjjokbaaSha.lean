/- One text of these: Sha0, ShaW1, ShaP1, ShaP2, ShaP3, Sha1, ShaW2, ShaP4, ShaP5, ShaP6, ShaP7, ShaP8, ShaP9, ShaP10. -/
import Derived.Test.YtfmnhklpjjokbaaAbsE

/- The sum of a text, plainly; and what the functions of the package sha come to. -/
namespace Go.Sh
open Go Go.Abs

abbrev W32 := BitVec 32

def kk : List W32 := [1116352408#32, 1899447441#32, 3049323471#32, 3921009573#32, 961987163#32, 1508970993#32, 2453635748#32, 2870763221#32, 3624381080#32, 310598401#32, 607225278#32, 1426881987#32, 1925078388#32, 2162078206#32, 2614888103#32, 3248222580#32, 3835390401#32, 4022224774#32, 264347078#32, 604807628#32, 770255983#32, 1249150122#32, 1555081692#32, 1996064986#32, 2554220882#32, 2821834349#32, 2952996808#32, 3210313671#32, 3336571891#32, 3584528711#32, 113926993#32, 338241895#32, 666307205#32, 773529912#32, 1294757372#32, 1396182291#32, 1695183700#32, 1986661051#32, 2177026350#32, 2456956037#32, 2730485921#32, 2820302411#32, 3259730800#32, 3345764771#32, 3516065817#32, 3600352804#32, 4094571909#32, 275423344#32, 430227734#32, 506948616#32, 659060556#32, 883997877#32, 958139571#32, 1322822218#32, 1537002063#32, 1747873779#32, 1955562222#32, 2024104815#32, 2227730452#32, 2361852424#32, 2428436474#32, 2756734187#32, 3204031479#32, 3329325298#32]
def first : List W32 := [1779033703#32, 3144134277#32, 1013904242#32, 2773480762#32, 1359893119#32, 2600822924#32, 528734635#32, 1541459225#32]

/-- The word at a place of a text. -/
def word (s : List UInt8) (i : Nat) : W32 :=
  BitVec.ofNat 32 (s.getD (4 * i) 0).toNat <<< 24 ||| BitVec.ofNat 32 (s.getD (4 * i + 1) 0).toNat <<< 16 ||| BitVec.ofNat 32 (s.getD (4 * i + 2) 0).toNat <<< 8 ||| BitVec.ofNat 32 (s.getD (4 * i + 3) 0).toNat

def s0 (x : W32) : W32 := (x >>> 7 ||| x <<< 25) ^^^ (x >>> 18 ||| x <<< 14) ^^^ x >>> 3
def s1 (y : W32) : W32 := (y >>> 17 ||| y <<< 15) ^^^ (y >>> 19 ||| y <<< 13) ^^^ y >>> 10
def S0 (a : W32) : W32 := (a >>> 2 ||| a <<< 30) ^^^ (a >>> 13 ||| a <<< 19) ^^^ (a >>> 22 ||| a <<< 10)
def S1 (e : W32) : W32 := (e >>> 6 ||| e <<< 26) ^^^ (e >>> 11 ||| e <<< 21) ^^^ (e >>> 25 ||| e <<< 7)
def chs (e f g : W32) : W32 := (e &&& f) ^^^ (~~~e &&& g)
def maj (a b c : W32) : W32 := (a &&& b) ^^^ (a &&& c) ^^^ (b &&& c)

/-- The words of a block: so many of them. -/
def wl (s : List UInt8) : Nat → List W32
  | 0 => []
  | n + 1 =>
    let l := wl s n
    l ++ [if n < 16 then word s n else l.getD (n - 16) 0 + s0 (l.getD (n - 15) 0) + l.getD (n - 7) 0 + s1 (l.getD (n - 2) 0)]

structure St where
  a : W32
  b : W32
  c : W32
  d : W32
  e : W32
  f : W32
  g : W32
  h : W32

def St.go (s : St) (k w : W32) : St :=
  let x := s.h + S1 s.e + chs s.e s.f s.g + k + w
  let y := S0 s.a + maj s.a s.b s.c
  ⟨x + y, s.a, s.b, s.c, s.d + x, s.e, s.f, s.g⟩

def rounds (l : List W32) (s : St) : Nat → St
  | 0 => s
  | n + 1 => (rounds l s n).go (kk.getD n 0) (l.getD n 0)

def St.of (h : List W32) : St := ⟨h.getD 0 0, h.getD 1 0, h.getD 2 0, h.getD 3 0, h.getD 4 0, h.getD 5 0, h.getD 6 0, h.getD 7 0⟩

/-- What eight words become by a block. -/
def work (h : List W32) (s : List UInt8) : List W32 :=
  let r := rounds (wl s 64) (St.of h) 64
  [h.getD 0 0 + r.a, h.getD 1 0 + r.b, h.getD 2 0 + r.c, h.getD 3 0 + r.d, h.getD 4 0 + r.e, h.getD 5 0 + r.f, h.getD 6 0 + r.g, h.getD 7 0 + r.h]

def zeros (n : Nat) : Nat := (119 - n % 64) % 64
def be64 (n : Nat) : List UInt8 := [56, 48, 40, 32, 24, 16, 8, 0].map fun i => UInt8.ofNat (n / 2 ^ i)
/-- What stands behind a text of so many bytes. -/
def tailB (n : Nat) : List UInt8 := 128 :: List.replicate (zeros n) 0 ++ be64 (n * 8)

/-- So many blocks eaten. -/
def eat : Nat → List W32 → List UInt8 → List W32
  | 0, h, _ => h
  | k + 1, h, s => eat k (work h (s.take 64)) (s.drop 64)

def bytes4 (w : W32) : List UInt8 := [UInt8.ofNat (w >>> 24).toNat, UInt8.ofNat (w >>> 16).toNat, UInt8.ofNat (w >>> 8).toNat, UInt8.ofNat w.toNat]
def digest (h : List W32) : List UInt8 := (h.map bytes4).flatten

def pad (s : List UInt8) : List UInt8 := s ++ tailB s.length
def sum (s : List UInt8) : List UInt8 := digest (eat ((pad s).length / 64) first (pad s))

theorem work_len (h : List W32) (s : List UInt8) : (work h s).length = 8 := rfl
theorem eat_len (k : Nat) : ∀ (h : List W32) (s : List UInt8), h.length = 8 → (eat k h s).length = 8 := by
  induction k with
  | zero => intro h s hh; exact hh
  | succ k ih => intro h s _; exact ih _ _ (work_len _ _)
theorem digest_len {h : List W32} (hh : h.length = 8) : (digest h).length = 32 := by
  match h, hh with
  | [_, _, _, _, _, _, _, _], _ => rfl
theorem sum_len (s : List UInt8) : (sum s).length = 32 := digest_len (eat_len _ _ _ rfl)
theorem tailB_len (n : Nat) : (tailB n).length = 9 + zeros n := by simp [tailB, be64]; omega
theorem pad_mod (s : List UInt8) : (pad s).length % 64 = 0 := by
  simp only [pad, List.length_append, tailB_len, zeros]; omega

theorem eat_add (a b : Nat) : ∀ (h : List W32) (s : List UInt8), eat (a + b) h s = eat b (eat a h s) (s.drop (64 * a)) := by
  induction a with
  | zero => intro h s; simp [eat]
  | succ a ih =>
    intro h s
    rw [show a + 1 + b = (a + b) + 1 by omega]
    simp only [eat]
    rw [ih, List.drop_drop]
    congr 2
    omega
theorem eat_app (a : Nat) : ∀ (h : List W32) (s t : List UInt8), 64 * a ≤ s.length → eat a h (s ++ t) = eat a h s := by
  induction a with
  | zero => intro h s t _; rfl
  | succ a ih =>
    intro h s t hl
    simp only [eat]
    rw [List.take_append_of_le_length (by omega), List.drop_append_of_le_length (by omega), ih _ _ _ (by simp; omega)]

def S_sha_Words : Abs.Spec := fun args H r H' => args = [] ∧ r = .agg (first.map U) ∧ H' = H
def S_sha_constants : Abs.Spec := fun args H r H' => args = [] ∧ r = .agg (kk.map U) ∧ H' = H
def S_sha_work : Abs.Spec := fun args H r H' => ∃ h s, args = [.agg (h.map U), .str s] ∧ h.length = 8 ∧ s.length = 64 ∧ r = .agg ((work h s).map U) ∧ H' = H
def S_sha_tail : Abs.Spec := fun args H r H' => ∃ n : Nat, args = [.int .i64 n] ∧ n ≤ 1099511627776 ∧ r = .str (tailB n) ∧ H' = H
def S_sha_digest : Abs.Spec := fun args H r H' => ∃ h, args = [.agg (h.map U)] ∧ h.length = 8 ∧ r = .agg ((digest h).map ofByte) ∧ H' = H
def S_sha_Sum : Abs.Spec := fun args H r H' => ∃ s, args = [.str s] ∧ s.length ≤ 1099511627776 ∧ r = .agg ((sum s).map ofByte) ∧ H' = H

end Go.Sh

/- What Go functions come to over abstract values, printed by a program (wtext.py). -/
namespace Go.Sh
open Go Go.Abs

def sha_Words.w (H : AHeap) (K : AVal → AHeap → Prop) : Prop :=
  hb (aAlloc H (List.replicate 8 (.int .u32 0))) fun v1 H2 =>
  vb (aBuild (List.replicate 8 (.int .u32 0)) (fun k => some (k * 1, 1)) [(0, .int .u32 1779033703), (1, .int .u32 3144134277), (2, .int .u32 1013904242), (3, .int .u32 2773480762), (4, .int .u32 1359893119), (5, .int .u32 2600822924), (6, .int .u32 528734635), (7, .int .u32 1541459225)]) fun v3 =>
  sb (aStore H2 8 v1 v3) fun H4 =>
  fin .ret [.c true 8 (v1)] H4 K

def sha_constants.w (H : AHeap) (K : AVal → AHeap → Prop) : Prop :=
  hb (aAlloc H (List.replicate 64 (.int .u32 0))) fun v1 H2 =>
  vb (aBuild (List.replicate 64 (.int .u32 0)) (fun k => some (k * 1, 1)) [(0, .int .u32 1116352408), (1, .int .u32 1899447441), (2, .int .u32 3049323471), (3, .int .u32 3921009573), (4, .int .u32 961987163), (5, .int .u32 1508970993), (6, .int .u32 2453635748), (7, .int .u32 2870763221), (8, .int .u32 3624381080), (9, .int .u32 310598401), (10, .int .u32 607225278), (11, .int .u32 1426881987), (12, .int .u32 1925078388), (13, .int .u32 2162078206), (14, .int .u32 2614888103), (15, .int .u32 3248222580), (16, .int .u32 3835390401), (17, .int .u32 4022224774), (18, .int .u32 264347078), (19, .int .u32 604807628), (20, .int .u32 770255983), (21, .int .u32 1249150122), (22, .int .u32 1555081692), (23, .int .u32 1996064986), (24, .int .u32 2554220882), (25, .int .u32 2821834349), (26, .int .u32 2952996808), (27, .int .u32 3210313671), (28, .int .u32 3336571891), (29, .int .u32 3584528711), (30, .int .u32 113926993), (31, .int .u32 338241895), (32, .int .u32 666307205), (33, .int .u32 773529912), (34, .int .u32 1294757372), (35, .int .u32 1396182291), (36, .int .u32 1695183700), (37, .int .u32 1986661051), (38, .int .u32 2177026350), (39, .int .u32 2456956037), (40, .int .u32 2730485921), (41, .int .u32 2820302411), (42, .int .u32 3259730800), (43, .int .u32 3345764771), (44, .int .u32 3516065817), (45, .int .u32 3600352804), (46, .int .u32 4094571909), (47, .int .u32 275423344), (48, .int .u32 430227734), (49, .int .u32 506948616), (50, .int .u32 659060556), (51, .int .u32 883997877), (52, .int .u32 958139571), (53, .int .u32 1322822218), (54, .int .u32 1537002063), (55, .int .u32 1747873779), (56, .int .u32 1955562222), (57, .int .u32 2024104815), (58, .int .u32 2227730452), (59, .int .u32 2361852424), (60, .int .u32 2428436474), (61, .int .u32 2756734187), (62, .int .u32 3204031479), (63, .int .u32 3329325298)]) fun v3 =>
  sb (aStore H2 64 v1 v3) fun H4 =>
  fin .ret [.c true 64 (v1)] H4 K

def sha_work.L3.b (x1 : AVal) (v5 : AVal) (x26_3 : AVal) (H7 : AHeap) (Kn8 : List AVal → AHeap → Prop) (Ke9 : AExit → List AVal → AHeap → Prop) : Prop :=
  vb (aBin .lss x26_3 (.int .i64 16)) fun v10 =>
  isB v10 fun b11 => cond b11
    (vb (aBin .mul (.int .i64 4) x26_3) fun v12 =>
    vb (aIndexStr x1 v12) fun v13 =>
    vb (aInt2 .u32 v13) fun v14 =>
    vb (aBin .shl v14 (.int .u64 24)) fun v15 =>
    vb (aBin .mul (.int .i64 4) x26_3) fun v16 =>
    vb (aBin .add v16 (.int .i64 1)) fun v17 =>
    vb (aIndexStr x1 v17) fun v18 =>
    vb (aInt2 .u32 v18) fun v19 =>
    vb (aBin .shl v19 (.int .u64 16)) fun v20 =>
    vb (aBin .or v15 v20) fun v21 =>
    vb (aBin .mul (.int .i64 4) x26_3) fun v22 =>
    vb (aBin .add v22 (.int .i64 2)) fun v23 =>
    vb (aIndexStr x1 v23) fun v24 =>
    vb (aInt2 .u32 v24) fun v25 =>
    vb (aBin .shl v25 (.int .u64 8)) fun v26 =>
    vb (aBin .or v21 v26) fun v27 =>
    vb (aBin .mul (.int .i64 4) x26_3) fun v28 =>
    vb (aBin .add v28 (.int .i64 3)) fun v29 =>
    vb (aIndexStr x1 v29) fun v30 =>
    vb (aInt2 .u32 v30) fun v31 =>
    vb (aBin .or v27 v31) fun v32 =>
    vb (aIndexAddrArr 64 1 v5 x26_3) fun v33 =>
    sb (aStore H7 1 v33 v32) fun H34 =>
    vb (aBin .add x26_3 (.int .i64 1)) fun v35 =>
    Kn8 [v35] H34)
    (Ke9 (.exit 0) [] H7)

def sha_work.L3 (x1 : AVal) (v5 : AVal) : Body := fun vs H Kn Ke => sha_work.L3.b x1 v5 (vs.getD 0 .undef) H Kn Ke

def sha_work.L8.b (v5 : AVal) (x7_8 : AVal) (H39 : AHeap) (Kn40 : List AVal → AHeap → Prop) (Ke41 : AExit → List AVal → AHeap → Prop) : Prop :=
  vb (aBin .lss x7_8 (.int .i64 64)) fun v42 =>
  isB v42 fun b43 => cond b43
    (vb (aBin .sub x7_8 (.int .i64 15)) fun v44 =>
    vb (aIndexAddrArr 64 1 v5 v44) fun v45 =>
    vb (aLoad H39 false 1 v45) fun v46 =>
    vb (aBin .sub x7_8 (.int .i64 2)) fun v47 =>
    vb (aIndexAddrArr 64 1 v5 v47) fun v48 =>
    vb (aLoad H39 false 1 v48) fun v49 =>
    vb (aBin .shr v46 (.int .u64 7)) fun v50 =>
    vb (aBin .shl v46 (.int .u64 25)) fun v51 =>
    vb (aBin .or v50 v51) fun v52 =>
    vb (aBin .shr v46 (.int .u64 18)) fun v53 =>
    vb (aBin .shl v46 (.int .u64 14)) fun v54 =>
    vb (aBin .or v53 v54) fun v55 =>
    vb (aBin .xor v52 v55) fun v56 =>
    vb (aBin .shr v46 (.int .u64 3)) fun v57 =>
    vb (aBin .xor v56 v57) fun v58 =>
    vb (aBin .shr v49 (.int .u64 17)) fun v59 =>
    vb (aBin .shl v49 (.int .u64 15)) fun v60 =>
    vb (aBin .or v59 v60) fun v61 =>
    vb (aBin .shr v49 (.int .u64 19)) fun v62 =>
    vb (aBin .shl v49 (.int .u64 13)) fun v63 =>
    vb (aBin .or v62 v63) fun v64 =>
    vb (aBin .xor v61 v64) fun v65 =>
    vb (aBin .shr v49 (.int .u64 10)) fun v66 =>
    vb (aBin .xor v65 v66) fun v67 =>
    vb (aBin .sub x7_8 (.int .i64 16)) fun v68 =>
    vb (aIndexAddrArr 64 1 v5 v68) fun v69 =>
    vb (aLoad H39 false 1 v69) fun v70 =>
    vb (aBin .add v70 v58) fun v71 =>
    vb (aBin .sub x7_8 (.int .i64 7)) fun v72 =>
    vb (aIndexAddrArr 64 1 v5 v72) fun v73 =>
    vb (aLoad H39 false 1 v73) fun v74 =>
    vb (aBin .add v71 v74) fun v75 =>
    vb (aBin .add v75 v67) fun v76 =>
    vb (aIndexAddrArr 64 1 v5 x7_8) fun v77 =>
    sb (aStore H39 1 v77 v76) fun H78 =>
    vb (aBin .add x7_8 (.int .i64 1)) fun v79 =>
    Kn40 [v79] H78)
    (Ke41 (.exit 2) [] H39)

def sha_work.L8 (v5 : AVal) : Body := fun vs H Kn Ke => sha_work.L8.b v5 (vs.getD 0 .undef) H Kn Ke

def sha_work.L17.b (v85 : AVal) (v5 : AVal) (x13_17 : AVal) (x14_17 : AVal) (x15_17 : AVal) (x16_17 : AVal) (x17_17 : AVal) (x18_17 : AVal) (x19_17 : AVal) (x20_17 : AVal) (x133_17 : AVal) (H104 : AHeap) (Kn105 : List AVal → AHeap → Prop) (Ke106 : AExit → List AVal → AHeap → Prop) : Prop :=
  vb (aBin .lss x133_17 (.int .i64 64)) fun v107 =>
  isB v107 fun b108 => cond b108
    (vb (aBin .shr x17_17 (.int .u64 6)) fun v109 =>
    vb (aBin .shl x17_17 (.int .u64 26)) fun v110 =>
    vb (aBin .or v109 v110) fun v111 =>
    vb (aBin .shr x17_17 (.int .u64 11)) fun v112 =>
    vb (aBin .shl x17_17 (.int .u64 21)) fun v113 =>
    vb (aBin .or v112 v113) fun v114 =>
    vb (aBin .xor v111 v114) fun v115 =>
    vb (aBin .shr x17_17 (.int .u64 25)) fun v116 =>
    vb (aBin .shl x17_17 (.int .u64 7)) fun v117 =>
    vb (aBin .or v116 v117) fun v118 =>
    vb (aBin .xor v115 v118) fun v119 =>
    vb (aBin .add x20_17 v119) fun v120 =>
    vb (aBin .and x17_17 x18_17) fun v121 =>
    vb (aUn .xor x17_17) fun v122 =>
    vb (aBin .and v122 x19_17) fun v123 =>
    vb (aBin .xor v121 v123) fun v124 =>
    vb (aBin .add v120 v124) fun v125 =>
    vb (aIndexAddrArr 64 1 v85 x133_17) fun v126 =>
    vb (aLoad H104 false 1 v126) fun v127 =>
    vb (aBin .add v125 v127) fun v128 =>
    vb (aIndexAddrArr 64 1 v5 x133_17) fun v129 =>
    vb (aLoad H104 false 1 v129) fun v130 =>
    vb (aBin .add v128 v130) fun v131 =>
    vb (aBin .shr x13_17 (.int .u64 2)) fun v132 =>
    vb (aBin .shl x13_17 (.int .u64 30)) fun v133 =>
    vb (aBin .or v132 v133) fun v134 =>
    vb (aBin .shr x13_17 (.int .u64 13)) fun v135 =>
    vb (aBin .shl x13_17 (.int .u64 19)) fun v136 =>
    vb (aBin .or v135 v136) fun v137 =>
    vb (aBin .xor v134 v137) fun v138 =>
    vb (aBin .shr x13_17 (.int .u64 22)) fun v139 =>
    vb (aBin .shl x13_17 (.int .u64 10)) fun v140 =>
    vb (aBin .or v139 v140) fun v141 =>
    vb (aBin .xor v138 v141) fun v142 =>
    vb (aBin .and x13_17 x14_17) fun v143 =>
    vb (aBin .and x13_17 x15_17) fun v144 =>
    vb (aBin .xor v143 v144) fun v145 =>
    vb (aBin .and x14_17 x15_17) fun v146 =>
    vb (aBin .xor v145 v146) fun v147 =>
    vb (aBin .add v142 v147) fun v148 =>
    vb (aBin .add x16_17 v131) fun v149 =>
    vb (aBin .add v131 v148) fun v150 =>
    vb (aBin .add x133_17 (.int .i64 1)) fun v151 =>
    Kn105 [v150, x13_17, x14_17, x15_17, v149, x17_17, x18_17, x19_17, v151] H104)
    (Ke106 (.exit 4) [x13_17, x14_17, x15_17, x16_17, x17_17, x18_17, x19_17, x20_17] H104)

def sha_work.L17 (v85 : AVal) (v5 : AVal) : Body := fun vs H Kn Ke => sha_work.L17.b v85 v5 (vs.getD 0 .undef) (vs.getD 1 .undef) (vs.getD 2 .undef) (vs.getD 3 .undef) (vs.getD 4 .undef) (vs.getD 5 .undef) (vs.getD 6 .undef) (vs.getD 7 .undef) (vs.getD 8 .undef) H Kn Ke

def sha_work.w (x0 : AVal) (x1 : AVal) (H : AHeap) (K : AVal → AHeap → Prop) : Prop :=
  hb (aBox H x0) fun v1 H2 =>
  hb (aAlloc H2 (List.replicate 8 (.int .u32 0))) fun v3 H4 =>
  hb (aAlloc H4 (List.replicate 64 (.int .u32 0))) fun v5 H6 =>
  LoopP (sha_work.L3 x1 v5) [.int .i64 0] H6 fun e36 vs37 H38 =>
    onE e36 (.exit 0)
      (LoopP (sha_work.L8 v5) [.int .i64 16] H38 fun e80 vs81 H82 =>
        onE e80 (.exit 2)
          (cb (S_sha_constants [] H82) fun v83 H84 =>
          hb (aAlloc H84 (List.replicate 64 (.int .u32 0))) fun v85 H86 =>
          sb (aStore H86 64 v85 v83) fun H87 =>
          vb (aIndexAddrArr 8 1 v1 (.int .i64 0)) fun v88 =>
          vb (aLoad H87 false 1 v88) fun v89 =>
          vb (aIndexAddrArr 8 1 v1 (.int .i64 1)) fun v90 =>
          vb (aLoad H87 false 1 v90) fun v91 =>
          vb (aIndexAddrArr 8 1 v1 (.int .i64 2)) fun v92 =>
          vb (aLoad H87 false 1 v92) fun v93 =>
          vb (aIndexAddrArr 8 1 v1 (.int .i64 3)) fun v94 =>
          vb (aLoad H87 false 1 v94) fun v95 =>
          vb (aIndexAddrArr 8 1 v1 (.int .i64 4)) fun v96 =>
          vb (aLoad H87 false 1 v96) fun v97 =>
          vb (aIndexAddrArr 8 1 v1 (.int .i64 5)) fun v98 =>
          vb (aLoad H87 false 1 v98) fun v99 =>
          vb (aIndexAddrArr 8 1 v1 (.int .i64 6)) fun v100 =>
          vb (aLoad H87 false 1 v100) fun v101 =>
          vb (aIndexAddrArr 8 1 v1 (.int .i64 7)) fun v102 =>
          vb (aLoad H87 false 1 v102) fun v103 =>
          LoopP (sha_work.L17 v85 v5) [v89, v91, v93, v95, v97, v99, v101, v103, .int .i64 0] H87 fun e152 vs153 H154 =>
            onE e152 (.exit 4)
              (vb (aIndexAddrArr 8 1 v1 (.int .i64 0)) fun v155 =>
              vb (aLoad H154 false 1 v155) fun v156 =>
              vb (aBin .add v156 (vs153.getD 0 .undef)) fun v157 =>
              vb (aIndexAddrArr 8 1 v1 (.int .i64 1)) fun v158 =>
              vb (aLoad H154 false 1 v158) fun v159 =>
              vb (aBin .add v159 (vs153.getD 1 .undef)) fun v160 =>
              vb (aIndexAddrArr 8 1 v1 (.int .i64 2)) fun v161 =>
              vb (aLoad H154 false 1 v161) fun v162 =>
              vb (aBin .add v162 (vs153.getD 2 .undef)) fun v163 =>
              vb (aIndexAddrArr 8 1 v1 (.int .i64 3)) fun v164 =>
              vb (aLoad H154 false 1 v164) fun v165 =>
              vb (aBin .add v165 (vs153.getD 3 .undef)) fun v166 =>
              vb (aIndexAddrArr 8 1 v1 (.int .i64 4)) fun v167 =>
              vb (aLoad H154 false 1 v167) fun v168 =>
              vb (aBin .add v168 (vs153.getD 4 .undef)) fun v169 =>
              vb (aIndexAddrArr 8 1 v1 (.int .i64 5)) fun v170 =>
              vb (aLoad H154 false 1 v170) fun v171 =>
              vb (aBin .add v171 (vs153.getD 5 .undef)) fun v172 =>
              vb (aIndexAddrArr 8 1 v1 (.int .i64 6)) fun v173 =>
              vb (aLoad H154 false 1 v173) fun v174 =>
              vb (aBin .add v174 (vs153.getD 6 .undef)) fun v175 =>
              vb (aIndexAddrArr 8 1 v1 (.int .i64 7)) fun v176 =>
              vb (aLoad H154 false 1 v176) fun v177 =>
              vb (aBin .add v177 (vs153.getD 7 .undef)) fun v178 =>
              vb (aBuild (List.replicate 8 (.int .u32 0)) (fun k => some (k * 1, 1)) [(0, v157), (1, v160), (2, v163), (3, v166), (4, v169), (5, v172), (6, v175), (7, v178)]) fun v179 =>
              sb (aStore H154 8 v3 v179) fun H180 =>
              fin .ret [.c true 8 (v3)] H180 K)
            (False))
        (False))
    (False)

def sha_tail.L2.b (x0 : AVal) (x3_2 : AVal) (H3 : AHeap) (Kn4 : List AVal → AHeap → Prop) (Ke5 : AExit → List AVal → AHeap → Prop) : Prop :=
  vb (lenSl x3_2) fun v6 =>
  vb (aBin .add x0 v6) fun v7 =>
  vb (aBin .rem v7 (.int .i64 64)) fun v8 =>
  vb (aBin .neq v8 (.int .i64 56)) fun v9 =>
  isB v9 fun b10 => cond b10
    (hb (aBuildSlice H3 1 [.int .u8 0] 1 [(0, .int .u8 0)]) fun v11 H12 =>
    hb (aAppendS H12 1 1 x3_2 v11) fun v13 H14 =>
    Kn4 [v13] H14)
    (Ke5 (.exit 0) [x3_2] H3)

def sha_tail.L2 (x0 : AVal) : Body := fun vs H Kn Ke => sha_tail.L2.b x0 (vs.getD 0 .undef) H Kn Ke

def sha_tail.L6.b (v19 : AVal) (x3_6 : AVal) (x5_6 : AVal) (H20 : AHeap) (Kn21 : List AVal → AHeap → Prop) (Ke22 : AExit → List AVal → AHeap → Prop) : Prop :=
  vb (aBin .geq x5_6 (.int .i64 0)) fun v23 =>
  isB v23 fun b24 => cond b24
    (vb (aBin .shr v19 x5_6) fun v25 =>
    vb (aInt2 .u8 v25) fun v26 =>
    hb (aBuildSlice H20 1 [.int .u8 0] 1 [(0, v26)]) fun v27 H28 =>
    hb (aAppendS H28 1 1 x3_6 v27) fun v29 H30 =>
    vb (aBin .sub x5_6 (.int .i64 8)) fun v31 =>
    Kn21 [v29, v31] H30)
    (Ke22 (.exit 2) [x3_6] H20)

def sha_tail.L6 (v19 : AVal) : Body := fun vs H Kn Ke => sha_tail.L6.b v19 (vs.getD 0 .undef) (vs.getD 1 .undef) H Kn Ke

def sha_tail.w (x0 : AVal) (H : AHeap) (K : AVal → AHeap → Prop) : Prop :=
  hb (aBuildSlice H 1 [.int .u8 0] 1 [(0, .int .u8 128)]) fun v1 H2 =>
  LoopP (sha_tail.L2 x0) [v1] H2 fun e15 vs16 H17 =>
    onE e15 (.exit 0)
      (vb (aInt2 .u64 x0) fun v18 =>
      vb (aBin .mul v18 (.int .u64 8)) fun v19 =>
      LoopP (sha_tail.L6 v19) [vs16.getD 0 .undef, .int .i64 56] H17 fun e32 vs33 H34 =>
        onE e32 (.exit 2)
          (vb (aBytes2Str H34 (vs33.getD 0 .undef)) fun v35 =>
          fin .ret [.v (v35)] H34 K)
        (False))
    (False)

def sha_digest.L3.b (v7 : AVal) (v5 : AVal) (x7_3 : AVal) (H8 : AHeap) (Kn9 : List AVal → AHeap → Prop) (Ke10 : AExit → List AVal → AHeap → Prop) : Prop :=
  vb (aBin .lss x7_3 (.int .i64 8)) fun v11 =>
  isB v11 fun b12 => cond b12
    (vb (aIndexArr 8 false 1 v7 x7_3) fun v13 =>
    vb (aBin .mul (.int .i64 4) x7_3) fun v14 =>
    vb (aBin .mul (.int .i64 4) x7_3) fun v15 =>
    vb (aBin .add v15 (.int .i64 1)) fun v16 =>
    vb (aBin .mul (.int .i64 4) x7_3) fun v17 =>
    vb (aBin .add v17 (.int .i64 2)) fun v18 =>
    vb (aBin .mul (.int .i64 4) x7_3) fun v19 =>
    vb (aBin .add v19 (.int .i64 3)) fun v20 =>
    vb (aBin .shr v13 (.int .u64 24)) fun v21 =>
    vb (aInt2 .u8 v21) fun v22 =>
    vb (aBin .shr v13 (.int .u64 16)) fun v23 =>
    vb (aInt2 .u8 v23) fun v24 =>
    vb (aBin .shr v13 (.int .u64 8)) fun v25 =>
    vb (aInt2 .u8 v25) fun v26 =>
    vb (aInt2 .u8 v13) fun v27 =>
    vb (aIndexAddrArr 32 1 v5 v14) fun v28 =>
    sb (aStore H8 1 v28 v22) fun H29 =>
    vb (aIndexAddrArr 32 1 v5 v16) fun v30 =>
    sb (aStore H29 1 v30 v24) fun H31 =>
    vb (aIndexAddrArr 32 1 v5 v18) fun v32 =>
    sb (aStore H31 1 v32 v26) fun H33 =>
    vb (aIndexAddrArr 32 1 v5 v20) fun v34 =>
    sb (aStore H33 1 v34 v27) fun H35 =>
    vb (aBin .add x7_3 (.int .i64 1)) fun v36 =>
    Kn9 [v36] H35)
    (Ke10 (.exit 0) [] H8)

def sha_digest.L3 (v7 : AVal) (v5 : AVal) : Body := fun vs H Kn Ke => sha_digest.L3.b v7 v5 (vs.getD 0 .undef) H Kn Ke

def sha_digest.w (x0 : AVal) (H : AHeap) (K : AVal → AHeap → Prop) : Prop :=
  hb (aBox H x0) fun v1 H2 =>
  hb (aAlloc H2 (List.replicate 32 (.int .u8 0))) fun v3 H4 =>
  hb (aAlloc H4 (List.replicate 32 (.int .u8 0))) fun v5 H6 =>
  vb (aLoad H6 true 8 v1) fun v7 =>
  LoopP (sha_digest.L3 v7 v5) [.int .i64 0] H6 fun e37 vs38 H39 =>
    onE e37 (.exit 0)
      (vb (aLoad H39 true 32 v5) fun v40 =>
      sb (aStore H39 32 v3 v40) fun H41 =>
      fin .ret [.c true 32 (v3)] H41 K)
    (False)

def sha_Sum.L3.b (v5 : AVal) (x0_3 : AVal) (H9 : AHeap) (Kn10 : List AVal → AHeap → Prop) (Ke11 : AExit → List AVal → AHeap → Prop) : Prop :=
  vb (lenSt x0_3) fun v12 =>
  vb (aBin .geq v12 (.int .i64 64)) fun v13 =>
  isB v13 fun b14 => cond b14
    (vb (aLoad H9 true 8 v5) fun v15 =>
    vb (aSliceStr x0_3 none (some (.int .i64 64))) fun v16 =>
    cb (S_sha_work [v15, v16] H9) fun v17 H18 =>
    sb (aStore H18 8 v5 v17) fun H19 =>
    vb (aSliceStr x0_3 (some (.int .i64 64)) none) fun v20 =>
    Kn10 [v20] H19)
    (Ke11 (.exit 0) [x0_3] H9)

def sha_Sum.L3 (v5 : AVal) : Body := fun vs H Kn Ke => sha_Sum.L3.b v5 (vs.getD 0 .undef) H Kn Ke

def sha_Sum.L7.b (v5 : AVal) (x0_7 : AVal) (H27 : AHeap) (Kn28 : List AVal → AHeap → Prop) (Ke29 : AExit → List AVal → AHeap → Prop) : Prop :=
  vb (lenSt x0_7) fun v30 =>
  vb (aBin .gtr v30 (.int .i64 0)) fun v31 =>
  isB v31 fun b32 => cond b32
    (vb (aLoad H27 true 8 v5) fun v33 =>
    vb (aSliceStr x0_7 none (some (.int .i64 64))) fun v34 =>
    cb (S_sha_work [v33, v34] H27) fun v35 H36 =>
    sb (aStore H36 8 v5 v35) fun H37 =>
    vb (aSliceStr x0_7 (some (.int .i64 64)) none) fun v38 =>
    Kn28 [v38] H37)
    (Ke29 (.exit 2) [] H27)

def sha_Sum.L7 (v5 : AVal) : Body := fun vs H Kn Ke => sha_Sum.L7.b v5 (vs.getD 0 .undef) H Kn Ke

def sha_Sum.w (x0 : AVal) (H : AHeap) (K : AVal → AHeap → Prop) : Prop :=
  hb (aAlloc H (List.replicate 32 (.int .u8 0))) fun v1 H2 =>
  cb (S_sha_Words [] H2) fun v3 H4 =>
  hb (aAlloc H4 (List.replicate 8 (.int .u32 0))) fun v5 H6 =>
  sb (aStore H6 8 v5 v3) fun H7 =>
  vb (lenSt x0) fun v8 =>
  LoopP (sha_Sum.L3 v5) [x0] H7 fun e21 vs22 H23 =>
    onE e21 (.exit 0)
      (cb (S_sha_tail [v8] H23) fun v24 H25 =>
      vb (aBin .add (vs22.getD 0 .undef) v24) fun v26 =>
      LoopP (sha_Sum.L7 v5) [v26] H25 fun e39 vs40 H41 =>
        onE e39 (.exit 2)
          (vb (aLoad H41 true 8 v5) fun v42 =>
          cb (S_sha_digest [v42] H41) fun v43 H44 =>
          sb (aStore H44 32 v1 v43) fun H45 =>
          fin .ret [.c true 32 (v1)] H45 K)
        (False))
    (False)

end Go.Sh

/- The functions of the package sha: the block, the tail, the sum. -/
namespace Go.Sh
open Go Go.Abs

theorem sha_Words.ok (args : List AVal) (H : AHeap) (r : AVal) (H' : AHeap) (h : S_sha_Words args H r H') : args = [] ∧ sha_Words.w H fun r1 H1 => Weak H r1 H1 r H' := by
  obtain ⟨rfl, rfl, rfl⟩ := h
  refine ⟨rfl, ?_⟩
  unfold sha_Words.w
  refine hb_i rfl ?_
  refine vb_i (v := .agg (first.map U)) rfl ?_
  refine sb_i (e_storeAll (app_get0 _ _) (by decide) rfl rfl rfl) ?_
  rw [app_set0]
  exact fin_ret (vs := [.agg (first.map U)]) (rvs_c (e_loadAll (app_get0 _ _) rfl) (rvs_nil _)) (Weak.agg (map_plain U_plain _) (pre_app _ _))

theorem sha_constants.ok (args : List AVal) (H : AHeap) (r : AVal) (H' : AHeap) (h : S_sha_constants args H r H') : args = [] ∧ sha_constants.w H fun r1 H1 => Weak H r1 H1 r H' := by
  obtain ⟨rfl, rfl, rfl⟩ := h
  refine ⟨rfl, ?_⟩
  unfold sha_constants.w
  refine hb_i rfl ?_
  refine vb_i (v := .agg (kk.map U)) rfl ?_
  refine sb_i (e_storeAll (app_get0 _ _) (by decide) rfl rfl rfl) ?_
  rw [app_set0]
  exact fin_ret (vs := [.agg (kk.map U)]) (rvs_c (e_loadAll (app_get0 _ _) rfl) (rvs_nil _)) (Weak.agg (map_plain U_plain _) (pre_app _ _))

theorem wl_len (s : List UInt8) (n : Nat) : (wl s n).length = n := by
  induction n with
  | zero => rfl
  | succ n ih => simp [wl, ih]

/-- The words so far, and noughts. -/
def wz (s : List UInt8) (n : Nat) : List W32 := wl s n ++ List.replicate (64 - n) 0
theorem wz_len (s : List UInt8) {n : Nat} (h : n ≤ 64) : (wz s n).length = 64 := by simp [wz, wl_len]; omega
theorem wz_get (s : List UInt8) {n i : Nat} (h : i < n) : (wz s n).getD i 0 = (wl s n).getD i 0 := by
  simp [wz, List.getD, List.getElem?_append_left (show i < (wl s n).length by rw [wl_len]; exact h)]
theorem wz_set (s : List UInt8) {n : Nat} (h : n < 64) {x : W32} (hx : wl s (n + 1) = wl s n ++ [x]) : (wz s n).set n x = wz s (n + 1) := by
  simp only [wz, hx]
  rw [List.set_append_right _ _ (by rw [wl_len]; exact Nat.le_refl _), wl_len, Nat.sub_self]
  rw [show 64 - n = (64 - (n + 1)) + 1 by omega, List.replicate_succ]
  simp
theorem map_set (l : List W32) (n : Nat) (x : W32) : (l.map U).set n (U x) = (l.set n x).map U := by rw [List.map_set]

theorem sha_work.L17_ok {B : AHeap} {i5 i85 : Nat} {ws : List W32} (hw : B[i5]? = some (.cells 0 .exact (ws.map U))) (hk : B[i85]? = some (.cells 0 .exact (kk.map U))) (hl : ws.length = 64)
    (s0 : St) {K : AExit → List AVal → AHeap → Prop}
    (h : ∀ s, s = rounds ws s0 64 → K (.exit 4) [U s.a, U s.b, U s.c, U s.d, U s.e, U s.f, U s.g, U s.h] B) :
    LoopP (sha_work.L17 (.ptr ⟨i85, 0, 0⟩) (.ptr ⟨i5, 0, 0⟩)) [U s0.a, U s0.b, U s0.c, U s0.d, U s0.e, U s0.f, U s0.g, U s0.h, .int .i64 0] B K := by
  refine LoopP.ruleG (α := Nat) (fun i => let s := rounds ws s0 i; [U s.a, U s.b, U s.c, U s.d, U s.e, U s.f, U s.g, U s.h, .int .i64 i]) (fun i H => i ≤ 64 ∧ H = B) (fun i => 64 - i) 0 rfl ⟨by omega, rfl⟩ ?_
  rintro i H Kn ⟨hi, rfl⟩ hn
  unfold sha_work.L17 sha_work.L17.b
  simp only [List.getD_cons_zero, List.getD_cons_succ, ev]
  have hkk : kk.length = 64 := rfl
  refine isB_d (fun h1 => ?_) (fun h1 => ?_)
  · simp (disch := first | omega | (simp only [evS]; done) | (simp only [len_map, len_set]; omega) | fail) only [ev, evU, evH, hk, hw, getD_map (0 : W32)]
    simpa [rounds, St.go, S0, S1, maj, chs] using hn (i + 1) H ⟨by omega, rfl⟩ (by omega)
  · have : i = 64 := by omega
    subst this
    exact h _ rfl

theorem sha_work.L3_ok {H : AHeap} {A C : AObj} {s : List UInt8} (hs : s.length = 64) {K : AExit → List AVal → AHeap → Prop}
    (h : K (.exit 0) [] (H ++ [A, C, .cells 0 .exact ((wz s 16).map U)])) :
    LoopP (sha_work.L3 (.str s) (.ptr ⟨H.length + 2, 0, 0⟩)) [.int .i64 0] (H ++ [A, C, .cells 0 .exact ((wz s 0).map U)]) K := by
  refine LoopP.ruleG (α := Nat) (fun i => [.int .i64 i]) (fun i B => i ≤ 16 ∧ B = H ++ [A, C, .cells 0 .exact ((wz s i).map U)]) (fun i => 16 - i) 0 rfl ⟨by omega, rfl⟩ ?_
  rintro i B Kn ⟨hi, rfl⟩ hn
  unfold sha_work.L3 sha_work.L3.b
  simp only [List.getD_cons_zero, ev]
  refine isB_d (fun h1 => ?_) (fun h1 => ?_)
  · have hl := wz_len s (n := i) (by omega)
    simp (disch := first | omega | (simp only [evS]; done) | (simp only [len_map, len_set]; omega) | fail) only [ev, evU, evH, List.getElem?_cons_zero, List.getElem?_cons_succ, List.set_cons_zero, List.set_cons_succ, map_set]
    have hw := wz_set s (n := i) (by omega) (x := word s i) (by simp only [wl]; rw [if_pos (by omega)])
    rw [show (0 + (i : Int).toNat * 1) = i by omega, show (4 * (i : Int)).toNat = 4 * i by omega, show (4 * (i : Int) + 1).toNat = 4 * i + 1 by omega, show (4 * (i : Int) + 2).toNat = 4 * i + 2 by omega, show (4 * (i : Int) + 3).toNat = 4 * i + 3 by omega]
    exact hn (i + 1) _ ⟨by omega, by rw [← hw]; rfl⟩ (by omega)
  · have : i = 16 := by omega
    subst this
    exact h

theorem sha_work.L8_ok {H : AHeap} {A C : AObj} {s : List UInt8} {K : AExit → List AVal → AHeap → Prop}
    (h : K (.exit 2) [] (H ++ [A, C, .cells 0 .exact ((wl s 64).map U)])) :
    LoopP (sha_work.L8 (.ptr ⟨H.length + 2, 0, 0⟩)) [.int .i64 16] (H ++ [A, C, .cells 0 .exact ((wz s 16).map U)]) K := by
  refine LoopP.ruleG (α := Nat) (fun i => [.int .i64 i]) (fun i B => 16 ≤ i ∧ i ≤ 64 ∧ B = H ++ [A, C, .cells 0 .exact ((wz s i).map U)]) (fun i => 64 - i) 16 rfl ⟨by omega, by omega, rfl⟩ ?_
  rintro i B Kn ⟨h16, hi, rfl⟩ hn
  unfold sha_work.L8 sha_work.L8.b
  simp only [List.getD_cons_zero, ev]
  refine isB_d (fun h1 => ?_) (fun h1 => ?_)
  · have hl := wz_len s (n := i) (by omega)
    simp (disch := first | omega | (simp only [evS]; done) | (simp only [len_map, len_set]; omega) | fail) only [ev, evU, evH, List.getElem?_cons_zero, List.getElem?_cons_succ, List.set_cons_zero, List.set_cons_succ, getD_map (0 : W32), map_set]
    have hw := wz_set s (n := i) (by omega) (x := (wl s i).getD (i - 16) 0 + s0 ((wl s i).getD (i - 15) 0) + (wl s i).getD (i - 7) 0 + s1 ((wl s i).getD (i - 2) 0)) (by simp only [wl]; rw [if_neg (by omega)])
    rw [show (0 + (i : Int).toNat * 1) = i by omega, show (0 + ((i : Int) - 16).toNat * 1) = i - 16 by omega, show (0 + ((i : Int) - 15).toNat * 1) = i - 15 by omega, show (0 + ((i : Int) - 7).toNat * 1) = i - 7 by omega, show (0 + ((i : Int) - 2).toNat * 1) = i - 2 by omega]
    rw [wz_get s (by omega), wz_get s (by omega), wz_get s (by omega), wz_get s (by omega)]
    exact hn (i + 1) _ ⟨by omega, by omega, by rw [← hw]; rfl⟩ (by omega)
  · have : i = 64 := by omega
    subst this
    simpa [wz] using h

theorem sha_work.ok (args : List AVal) (H : AHeap) (r : AVal) (H' : AHeap) (h : S_sha_work args H r H') : ∃ x0 x1, args = [x0, x1] ∧ sha_work.w x0 x1 H fun r1 H1 => Weak H r1 H1 r H' := by
  obtain ⟨hs, s, rfl, hl, h64, rfl, rfl⟩ := h
  refine ⟨_, _, rfl, ?_⟩
  unfold sha_work.w
  simp only [evH, hb_some, List.append_assoc, List.cons_append, List.nil_append, List.length_append, List.length_cons, List.length_nil, Nat.zero_add, Nat.reduceAdd]
  have e : (List.replicate 64 (AVal.int .u32 0)) = (wz s 0).map U := rfl
  rw [e]
  refine sha_work.L3_ok h64 ?_
  rw [onE_same]
  refine sha_work.L8_ok ?_
  rw [onE_same]
  refine cb_i _ _ ⟨rfl, rfl, rfl⟩ ?_
  match hs, hl with
  | [a, b, c, d, e, f, g, z], _ =>
  have hkl : kk.length = 64 := rfl
  have hz := wz_len s (n := 0) (by omega)
  simp (disch := first | omega | (simp only [evS]; done) | (simp only [len_map, len_rep, len_cons, len_nil, hkl, hz] <;> omega) | fail) only [ev, evH, List.append_assoc, List.cons_append, List.nil_append, List.length_append, List.length_cons, List.length_nil, Nat.zero_add, Nat.add_assoc, Nat.reduceAdd, List.getElem?_cons_zero, List.getElem?_cons_succ, List.set_cons_zero, List.set_cons_succ, getD_map (0 : W32), List.map_cons, List.map_nil]
  refine sha_work.L17_ok (ws := wl s 64) ?_ ?_ (wl_len _ _) (St.of [a, b, c, d, e, f, g, z]) fun r hr => ?_
  · rw [app_get]; rfl
  · rw [app_get]; rfl
  rw [onE_same]
  simp (disch := first | omega | (simp only [evS]; done) | (simp only [len_map, len_rep, len_cons, len_nil, hkl, hz] <;> omega) | fail) only [ev, evU, evH, List.getElem?_cons_zero, List.getElem?_cons_succ, List.getD_cons_zero, List.getD_cons_succ, Nat.zero_add, Int.toNat_zero, Int.reduceToNat, Nat.reduceMul]
  have hw : (work [a, b, c, d, e, f, g, z] s).map U = [U (a + r.a), U (b + r.b), U (c + r.c), U (d + r.d), U (e + r.e), U (f + r.f), U (g + r.g), U (z + r.h)] := by
    rw [hr]; rfl
  clear hr
  have e8 : List.replicate 8 (AVal.int .u32 0) = [.int .u32 0, .int .u32 0, .int .u32 0, .int .u32 0, .int .u32 0, .int .u32 0, .int .u32 0, .int .u32 0] := rfl
  simp (disch := first | omega | (simp only [evS]; done) | (simp only [len_map, len_rep, len_cons, len_nil, len_set] <;> omega) | rfl | fail) only [e8, ev, evF, evH, List.getElem?_cons_zero, List.getElem?_cons_succ, List.set_cons_zero, List.set_cons_succ, Nat.mul_one, Nat.zero_mul, Nat.one_mul]
  rw [← hw]
  have hwl : (work [a, b, c, d, e, f, g, z] s).length = 8 := rfl
  simp (disch := first | (simp only [evS]; done) | (simp only [len_map, hwl, len_cons, len_nil] <;> omega) | fail) only [evH, sb_some, List.set_cons_zero, List.set_cons_succ]
  refine fin_ret (vs := [.agg ((work [a, b, c, d, e, f, g, z] s).map U)]) ?_ (Weak.agg (map_plain U_plain _) (pre_app _ _))
  exact rvs_c (e_loadAll (by rw [app_get]; rfl) rfl) (rvs_nil _)
end Go.Sh

/- The functions of the package sha: the tail, the digest, the sum. -/
namespace Go.Sh
open Go Go.Abs

theorem map_snoc {α β : Type} (f : α → β) (l : List α) (x : α) : l.map f ++ [f x] = (l ++ [x]).map f := by simp

theorem sha_tail.ok (args : List AVal) (H : AHeap) (r : AVal) (H' : AHeap) (h : S_sha_tail args H r H') : ∃ x0, args = [x0] ∧ sha_tail.w x0 H fun r1 H1 => Weak H r1 H1 r H' := by
  obtain ⟨n, rfl, hn, rfl, rfl⟩ := h
  refine ⟨_, rfl, ?_⟩
  unfold sha_tail.w
  have hz : zeros n = (119 - n % 64) % 64 := rfl
  refine hb_i (v := .slice ⟨H'.length, 0, 0⟩ 1 (.ex 1)) (H := H' ++ [.cells 0 .exact [ofByte 128]]) rfl ?_
  refine LoopP.ruleG (α := AVal × Nat) (fun a => [a.1])
    (fun a B => a.2 ≤ zeros n ∧ H' <+: B ∧ (∀ i, slId a.1 = some i → H'.length ≤ i) ∧ Own B a.1 1 (1 + a.2) (((128 : UInt8) :: List.replicate a.2 0).map ofByte)) (fun a => zeros n - a.2) (.slice ⟨H'.length, 0, 0⟩ 1 (.ex 1), 0) rfl
    ⟨Nat.zero_le _, pre_app _ _, fun i hi => by cases hi; exact Nat.le_refl _, rfl, .inr (.inl ⟨H'.length, 0, rfl, by simp⟩)⟩ ?_
  rintro ⟨sv, k⟩ B Kn ⟨hk, hp, hid, ho⟩ hnx
  simp only at hk ho hid
  unfold sha_tail.L2 sha_tail.L2.b
  simp (disch := omega) only [List.getD_cons_zero, ev, lenSl_view ho.view]
  refine isB_d (fun h1 => ?_) (fun h1 => ?_)
  · refine push1 (x := ofByte 0) ho rfl (by simp only [room]; omega) (by simp only [room]; omega) fun sv' B' o kk hi => ?_
    refine hnx (sv', k + 1) B' ⟨?_, kk.pre hp hid, fun i hi' => ?_, ?_⟩ ?_
    · simp only; omega
    · rcases hi with hi | ⟨j, hj, hj2⟩
      · exact hid i (by rw [← hi]; exact hi')
      · simp only at hi'
        rw [hj] at hi'; cases hi'
        have := hp.length_le; omega
    · rw [map_snoc] at o
      rw [List.replicate_succ']
      exact o
    · simp only; omega
  · have hk' : k = zeros n := by omega
    subst hk'
    simp (disch := omega) only [ev, List.getD_cons_zero]
    refine LoopP.ruleG (α := AVal × Nat) (fun a => [a.1, .int .i64 (56 - 8 * (a.2 : Int))])
      (fun a B => a.2 ≤ 8 ∧ H' <+: B ∧ (∀ i, slId a.1 = some i → H'.length ≤ i) ∧ Own B a.1 1 (1 + zeros n + a.2) (((128 : UInt8) :: List.replicate (zeros n) 0 ++ (be64 (n * 8)).take a.2).map ofByte)) (fun a => 8 - a.2) (sv, 0) rfl
      ⟨Nat.zero_le _, hp, hid, by simpa using ho⟩ ?_
    rintro ⟨sv, q⟩ B Kn ⟨hk, hp, hid, ho⟩ hnx
    simp only at hk ho hid
    unfold sha_tail.L6 sha_tail.L6.b
    simp (disch := omega) only [List.getD_cons_zero, List.getD_cons_succ, ev]
    refine isB_d (fun h1 => ?_) (fun h1 => ?_)
    · rw [cond_true, shr_int .u64 .i64 (by omega) (by omega) (by simp only [IntKind.bits]; omega)]
      simp only [vb_some]
      rw [byte_of_int .u64 (by exact Int.ediv_nonneg (by omega) (Int.le_of_lt (Int.pow_pos (by decide))))]
      simp only [vb_some]
      refine push1 ho rfl (by simp only [room]; omega) (by simp only [room]; omega) fun sv' B' o kk hi => ?_
      have e : (56 - 8 * (q : Int) - 8) = 56 - 8 * ((q + 1 : Nat) : Int) := by omega
      rw [e]
      refine hnx (sv', q + 1) B' ⟨by simp only; omega, kk.pre hp hid, fun i hi' => ?_, ?_⟩ (by simp only; omega)
      · rcases hi with hi | ⟨j, hj, hj2⟩
        · exact hid i (by rw [← hi]; exact hi')
        · simp only at hi'
          rw [hj] at hi'; cases hi'
          have := hp.length_le; omega
      · rw [map_snoc] at o
        have hx : (be64 (n * 8)).take (q + 1) = (be64 (n * 8)).take q ++ [UInt8.ofNat ((n : Int) * 8 / 2 ^ (56 - 8 * (q : Int)).toNat).toNat] := by
          have hq : q < (be64 (n * 8)).length := by simp [be64]; omega
          rw [List.take_succ_eq_append_getElem hq]
          congr 2
          have hc : ((n : Int) * 8) = ((n * 8 : Nat) : Int) := by omega
          have hc2 : ((2 : Int) ^ (56 - 8 * (q : Int)).toNat) = ((2 ^ (56 - 8 * q) : Nat) : Int) := by
            rw [Int.natCast_pow, show (56 - 8 * (q : Int)).toNat = 56 - 8 * q by omega]; rfl
          rw [hc, hc2, ← Int.natCast_ediv, Int.toNat_natCast]
          have : q < 8 := by omega
          match q, this with
          | 0, _ | 1, _ | 2, _ | 3, _ | 4, _ | 5, _ | 6, _ | 7, _ => rfl
        simp only
        rw [hx, ← List.append_assoc]
        exact o
    · have : q = 8 := by omega
      subst this
      simp only [cond_false, onE_same]
      have hb : (be64 (n * 8)).take 8 = be64 (n * 8) := rfl
      rw [hb] at ho
      rw [bytes_str ho.view]
      simp only [vb_some]
      exact fin_ret (rvs_v (rvs_nil _)) (Weak.plain rfl hp)

/-- The bytes so far, and noughts. -/
def dz (h : List W32) (i : Nat) : List UInt8 := digest (h.take i) ++ List.replicate (32 - 4 * i) 0
theorem digest_len4 (h : List W32) : (digest h).length = 4 * h.length := by
  induction h with
  | nil => rfl
  | cons w h ih =>
    have : digest (w :: h) = bytes4 w ++ digest h := rfl
    rw [this, List.length_append, ih, List.length_cons]
    simp [bytes4]; omega
theorem dz_len {h : List W32} (hh : h.length = 8) {i : Nat} (hi : i ≤ 8) : (dz h i).length = 32 := by simp [dz, digest_len4]; omega
theorem dz_set {h : List W32} (hh : h.length = 8) {i : Nat} (hi : i < 8) :
    ((((dz h i).set (4 * i) (UInt8.ofNat (h.getD i 0 >>> 24).toNat)).set (4 * i + 1) (UInt8.ofNat (h.getD i 0 >>> 16).toNat)).set (4 * i + 2) (UInt8.ofNat (h.getD i 0 >>> 8).toNat)).set (4 * i + 3) (UInt8.ofNat (h.getD i 0).toNat) = dz h (i + 1) := by
  have hl : (digest (h.take i)).length = 4 * i := by rw [digest_len4]; simp; omega
  have e1 : List.replicate (32 - 4 * i) (0 : UInt8) = 0 :: 0 :: 0 :: 0 :: List.replicate (32 - 4 * (i + 1)) 0 := by
    rw [show 32 - 4 * i = (32 - 4 * (i + 1)) + 1 + 1 + 1 + 1 by omega]; rfl
  have e2 : digest (h.take (i + 1)) = digest (h.take i) ++ bytes4 (h.getD i 0) := by
    rw [List.take_succ_eq_append_getElem (by omega)]
    have hi' : i < h.length := by omega
    have hg : h.getD i 0 = h[i] := by simp [List.getD, hi']
    rw [hg]
    simp only [digest, List.map_append, List.flatten_append, List.map_cons, List.map_nil, List.flatten_cons, List.flatten_nil, List.append_nil]
  simp only [dz, e1, e2]
  rw [List.set_append_right _ _ (by omega), List.set_append_right _ _ (by omega), List.set_append_right _ _ (by omega), List.set_append_right _ _ (by omega), hl]
  rw [show 4 * i - 4 * i = 0 by omega, show 4 * i + 1 - 4 * i = 1 by omega, show 4 * i + 2 - 4 * i = 2 by omega, show 4 * i + 3 - 4 * i = 3 by omega]
  simp [bytes4]
theorem map_setB (l : List UInt8) (n : Nat) (x : UInt8) : (l.map ofByte).set n (ofByte x) = (l.set n x).map ofByte := by rw [List.map_set]

theorem sha_digest.ok (args : List AVal) (H : AHeap) (r : AVal) (H' : AHeap) (h : S_sha_digest args H r H') : ∃ x0, args = [x0] ∧ sha_digest.w x0 H fun r1 H1 => Weak H r1 H1 r H' := by
  obtain ⟨h, rfl, hh, rfl, rfl⟩ := h
  refine ⟨_, rfl, ?_⟩
  unfold sha_digest.w
  simp (disch := first | omega | (simp only [len_map, hh]; done) | fail) only [ev, evH, List.append_assoc, List.cons_append, List.nil_append, List.length_append, List.length_cons, List.length_nil, Nat.zero_add, Nat.add_assoc, Nat.reduceAdd, List.getElem?_cons_zero]
  refine LoopP.ruleG (α := Nat) (fun i => [.int .i64 i])
    (fun i B => i ≤ 8 ∧ B = H' ++ [.cells 0 .exact (h.map U), .cells 0 .exact (List.replicate 32 (.int .u8 0)), .cells 0 .exact ((dz h i).map ofByte)]) (fun i => 8 - i) 0 rfl ⟨by omega, rfl⟩ ?_
  rintro i B Kn ⟨hi, rfl⟩ hn
  unfold sha_digest.L3 sha_digest.L3.b
  simp only [List.getD_cons_zero, ev]
  have hl := dz_len hh hi
  refine isB_d (fun h1 => ?_) (fun h1 => ?_)
  · simp (disch := first | omega | (simp only [evS]; done) | (simp only [len_map, len_set, hh, hl] <;> omega) | fail) only [ev, evU, evH, getD_map (0 : W32), List.getElem?_cons_zero, List.getElem?_cons_succ, List.set_cons_zero, List.set_cons_succ, map_setB]
    have hw := dz_set hh (i := i) (by omega)
    refine hn (i + 1) _ ⟨by omega, ?_⟩ (by omega)
    rw [← hw, show (0 + (4 * (i : Int)).toNat * 1) = 4 * i by omega, show (0 + (4 * (i : Int) + 1).toNat * 1) = 4 * i + 1 by omega, show (0 + (4 * (i : Int) + 2).toNat * 1) = 4 * i + 2 by omega, show (0 + (4 * (i : Int) + 3).toNat * 1) = 4 * i + 3 by omega, show (i : Int).toNat = i by omega]
    rfl
  · have : i = 8 := by omega
    subst this
    have hd : dz h 8 = digest h := by simp [dz, List.take_of_length_le (show h.length ≤ 8 by omega)]
    have hdl := digest_len hh
    rw [hd]
    simp (disch := first | omega | (simp only [evS]; done) | (simp only [len_map, len_rep, hdl] <;> omega) | fail) only [ev, evH, List.getElem?_cons_zero, List.getElem?_cons_succ, List.set_cons_zero, List.set_cons_succ]
    refine fin_ret (vs := [.agg ((digest h).map ofByte)]) ?_ (Weak.agg (map_plain (fun _ => rfl) _) (pre_app _ _))
    exact rvs_c (e_loadAll (by rw [app_get]; rfl) (by simp [hdl])) (rvs_nil _)
end Go.Sh

/- The functions of the package sha: the sum. -/
namespace Go.Sh
open Go Go.Abs

theorem eat_succ (k : Nat) (h : List W32) (s : List UInt8) : eat (k + 1) h s = work (eat k h s) ((s.drop (64 * k)).take 64) := by
  rw [eat_add]; rfl

theorem sha_Sum.ok (args : List AVal) (H : AHeap) (r : AVal) (H' : AHeap) (h : S_sha_Sum args H r H') : ∃ x0, args = [x0] ∧ sha_Sum.w x0 H fun r1 H1 => Weak H r1 H1 r H' := by
  obtain ⟨s, rfl, hs, rfl, rfl⟩ := h
  refine ⟨_, rfl, ?_⟩
  unfold sha_Sum.w
  have hf : first.length = 8 := rfl
  simp only [ev, evH]
  refine cb_i _ _ ⟨rfl, rfl, rfl⟩ ?_
  simp (disch := first | omega | (simp only [evS]; done) | (simp only [len_map, len_rep, hf] <;> omega) | fail) only [ev, evH, List.append_assoc, List.cons_append, List.nil_append, List.length_append, List.length_cons, List.length_nil, Nat.zero_add, Nat.add_assoc, Nat.reduceAdd, List.getElem?_cons_zero, List.getElem?_cons_succ, List.set_cons_zero, List.set_cons_succ]
  refine LoopP.ruleG (α := Nat) (fun k => [.str (s.drop (64 * k))])
    (fun k B => 64 * k ≤ s.length ∧ B = H' ++ [.cells 0 .exact (List.replicate 32 (.int .u8 0)), .cells 0 .exact ((eat k first s).map U)]) (fun k => s.length - 64 * k) 0 (by simp) ⟨by omega, rfl⟩ ?_
  rintro k B Kn ⟨hk, rfl⟩ hn
  unfold sha_Sum.L3 sha_Sum.L3.b
  simp only [List.getD_cons_zero, ev, List.length_drop]
  have he := eat_len k first s hf
  refine isB_d (fun h1 => ?_) (fun h1 => ?_)
  · simp (disch := first | omega | (simp only [evS]; done) | (simp only [len_map, len_drop, he] <;> omega) | fail) only [ev, evH, List.getElem?_cons_zero, List.getElem?_cons_succ]
    refine cb_i _ _ ⟨_, _, rfl, he, ?_, rfl, rfl⟩ ?_
    · simp; omega
    · have hwl := work_len (eat k first s) (List.take (Int.toNat 64) (List.drop (64 * k) s))
      simp (disch := first | omega | (simp only [evS]; done) | (simp only [len_map, len_drop, he, hwl] <;> omega) | fail) only [ev, evH, List.getElem?_cons_zero, List.getElem?_cons_succ, List.set_cons_zero, List.set_cons_succ]
      rw [List.drop_drop]
      refine hn (k + 1) _ ⟨by omega, ?_⟩ (by omega)
      rw [eat_succ]; rfl
  · simp only [ev]
    refine cb_i _ _ ⟨s.length, rfl, hs, rfl, rfl⟩ ?_
    have hz : zeros s.length = (119 - s.length % 64) % 64 := rfl
    have htl := tailB_len s.length
    simp (disch := first | omega | (simp only [len_drop] <;> omega) | fail) only [ev, List.getD_cons_zero]
    have hpm := pad_mod s
    have hpl : (pad s).length = s.length + (9 + zeros s.length) := by rw [pad, List.length_append, htl]
    have hpd : ∀ j, 64 * j ≤ s.length → s.drop (64 * j) ++ tailB s.length = (pad s).drop (64 * j) := fun j hj => by rw [pad, List.drop_append_of_le_length hj]
    have hpe : eat k first s = eat k first (pad s) := (eat_app k first s _ hk).symm
    rw [hpd k hk, hpe]
    generalize hp : pad s = p at *
    refine LoopP.ruleG (α := Nat) (fun j => [.str (p.drop (64 * j))])
      (fun j B => 64 * j ≤ p.length ∧ B = H' ++ [.cells 0 .exact (List.replicate 32 (.int .u8 0)), .cells 0 .exact ((eat j first p).map U)]) (fun j => p.length - 64 * j) k rfl ⟨by omega, rfl⟩ ?_
    rintro j B Kn ⟨hj, rfl⟩ hn
    unfold sha_Sum.L7 sha_Sum.L7.b
    simp only [List.getD_cons_zero, ev, List.length_drop]
    have he := eat_len j first p hf
    refine isB_d (fun h1 => ?_) (fun h1 => ?_)
    · simp (disch := first | omega | (simp only [evS]; done) | (simp only [len_map, len_drop, he] <;> omega) | fail) only [ev, evH, List.getElem?_cons_zero, List.getElem?_cons_succ]
      refine cb_i _ _ ⟨_, _, rfl, he, ?_, rfl, rfl⟩ ?_
      · simp; omega
      · have hwl := work_len (eat j first p) (List.take (Int.toNat 64) (List.drop (64 * j) p))
        simp (disch := first | omega | (simp only [evS]; done) | (simp only [len_map, len_drop, he, hwl] <;> omega) | fail) only [ev, evH, List.getElem?_cons_zero, List.getElem?_cons_succ, List.set_cons_zero, List.set_cons_succ]
        rw [List.drop_drop]
        refine hn (j + 1) _ ⟨by omega, ?_⟩ (by omega)
        rw [eat_succ]; rfl
    · have hjj : j = p.length / 64 := by omega
      simp (disch := first | omega | (simp only [evS]; done) | (simp only [len_map, he] <;> omega) | fail) only [ev, evH, List.getElem?_cons_zero, List.getElem?_cons_succ]
      refine cb_i _ _ ⟨_, rfl, he, rfl, rfl⟩ ?_
      have hdl := digest_len he
      simp (disch := first | omega | (simp only [evS]; done) | (simp only [len_map, len_rep, hdl] <;> omega) | fail) only [ev, evH, List.getElem?_cons_zero, List.getElem?_cons_succ, List.set_cons_zero, List.set_cons_succ]
      have hsum : sum s = digest (eat j first p) := by rw [sum, hp, hjj]
      rw [hsum]
      refine fin_ret (vs := [.agg ((digest (eat j first p)).map ofByte)]) ?_ (Weak.agg (map_plain (fun _ => rfl) _) (pre_app _ _))
      exact rvs_c (e_loadAll (by rw [app_get0]; rfl) (by simp [hdl])) (rvs_nil _)
end Go.Sh

/- What the other functions of the package sha come to. -/
namespace Go.Sh
open Go Go.Abs

def dig (n : Nat) : UInt8 := ([48, 49, 50, 51, 52, 53, 54, 55, 56, 57, 97, 98, 99, 100, 101, 102] : List UInt8).getD n 0
/-- A sum's digits. -/
def hex (d : List UInt8) : List UInt8 := (d.map fun b => [dig (b.toNat / 16), dig (b.toNat % 16)]).flatten
def S_sha_Hex : Abs.Spec := fun args H r H' => ∃ d : List UInt8, args = [.agg (d.map ofByte)] ∧ d.length = 32 ∧ r = .str (hex d) ∧ H' = H

/-- What is not yet worked on. -/
def rest (all : List UInt8) : List UInt8 := all.drop (64 * (all.length / 64))
def hcells (all : List UInt8) (rv : AVal) : List AVal := (eat (all.length / 64) first all).map U ++ [rv, .int .i64 all.length]

/-- A hasher that was given a text. -/
structure HRep (H : AHeap) (i v : Nat) (all : List UInt8) (rv : AVal) : Prop where
  cell : H[i]? = some (.cells v .exact (hcells all rv))
  own : Own H rv 1 (rest all).length ((rest all).map ofByte)
  ne : slId rv ≠ some i
  len : all.length ≤ 549755813888
  full : rest all = [] → rv = .nils

theorem HRep.pre {H K : AHeap} {i v : Nat} {all : List UInt8} {rv : AVal} (h : HRep H i v all rv) (k : H <+: K) : HRep K i v all rv :=
  ⟨by rw [pre_get k (lt_of_some h.cell)]; exact h.cell, h.own.pre k, h.ne, h.len, h.full⟩

def S_sha_New : Abs.Spec := fun args H r H' => args = [] ∧ r = .ptr ⟨H.length, 0, 0⟩ ∧ H' = H ++ [.cells 0 .exact (hcells [] .nils)]
theorem HRep.new (H : AHeap) : HRep (H ++ [.cells 0 .exact (hcells [] .nils)]) H.length 0 [] .nils :=
  ⟨by simp, Own.nils _ _, by simp [slId], by simp, fun _ => rfl⟩

def addRv (H : AHeap) (all : List UInt8) : AVal := if rest all = [] then .nils else .slice ⟨H.length, 0, 0⟩ (rest all).length (.op 1)
def addH (H : AHeap) (i v : Nat) (all : List UInt8) : AHeap :=
  if rest all = [] then H.set i (.cells v .exact (hcells all .nils))
  else (H ++ [AObj.cells 0 .opn ((rest all).map ofByte)]).set i (.cells v .exact (hcells all (addRv H all)))
theorem HRep.add {H : AHeap} {i v : Nat} {all : List UInt8} (hi : i < H.length) (hl : all.length ≤ 549755813888) : HRep (addH H i v all) i v all (addRv H all) := by
  unfold addH
  by_cases h : rest all = []
  · rw [if_pos h]
    have e : addRv H all = .nils := if_pos h
    rw [e]
    refine ⟨by rw [List.getElem?_set_self hi], ?_, by simp [slId], hl, fun _ => rfl⟩
    rw [h]; exact Own.nils _ _
  · rw [if_neg h]
    have e : addRv H all = .slice ⟨H.length, 0, 0⟩ (rest all).length (.op 1) := if_neg h
    rw [e]
    refine ⟨by rw [List.getElem?_set_self (by simp; omega)], ⟨by simp, .inr (.inr ⟨H.length, 0, rfl, ?_⟩)⟩, ?_, hl, fun e => absurd e h⟩
    · rw [List.getElem?_set_ne (by omega)]; simp
    · simp only [slId]; intro e; cases e; omega

def S_sha_Hasher_Add : Abs.Spec := fun args H r H' =>
  (∃ s, args = [.nilp, .str s] ∧ r = .nilp ∧ H' = H) ∨
  (∃ i v s all rv, args = [.ptr ⟨i, v, 0⟩, .str s] ∧ HRep H i v all rv ∧ (all ++ s).length ≤ 549755813888 ∧ r = .ptr ⟨i, v, 0⟩ ∧ H' = addH H i v (all ++ s))
def S_sha_Hasher_Digest_1 : Abs.Spec := fun args H r H' => ∃ i v j w h s, args = [.ptr ⟨i, v, 0⟩, .ptr ⟨j, w, 0⟩] ∧ H[i]? = some (.cells v .exact (h.map U)) ∧ h.length = 8 ∧ H[j]? = some (.cells w .exact [.str s]) ∧ 64 ≤ s.length ∧ i ≠ j ∧
  r = .tup [] ∧ H' = (H.set i (.cells v .exact ((work h (s.take 64)).map U))).set j (.cells w .exact [.str (s.drop 64)])
def S_sha_Hasher_Digest : Abs.Spec := fun args H r H' =>
  (args = [.nilp] ∧ r = .agg ((sum []).map ofByte) ∧ H' = H) ∨
  (∃ i v all rv, args = [.ptr ⟨i, v, 0⟩] ∧ HRep H i v all rv ∧ r = .agg ((sum all).map ofByte) ∧ H' = H)
def S_sha_Pad : Abs.Spec := fun args H r H' => ∃ s, args = [.str s] ∧ s.length ≤ 1099511627776 ∧ r = .str (pad s) ∧ H' = H
def S_sha_Work : Abs.Spec := fun args H r H' => ∃ h s, args = [.agg (h.map U), .str s] ∧ h.length = 8 ∧ H' = H ∧
  r = if s.length = 64 then .tup [.agg ((work h s).map U), .int .i64 0] else .tup [.agg (List.replicate 8 (.int .u32 0)), .int .i64 6]
def S_sha_Constant : Abs.Spec := fun args H r H' => ∃ k : Int, args = [.int .i64 k] ∧ H' = H ∧
  r = if 0 ≤ k ∧ k < 64 then .tup [U (kk.getD k.toNat 0), .int .i64 0] else .tup [.int .u32 0, .int .i64 3]
def S_cellaretlaw03_awake : Abs.Spec := fun args H r H' => args = [] ∧ r = .bool true ∧ H' = H
def S_cellaretlaw03_ShaHex : Abs.Spec := fun args H r H' => ∃ d : List UInt8, args = [.agg (d.map ofByte)] ∧ d.length = 32 ∧ r = .bool true ∧ H' = H

end Go.Sh

/- What Go functions come to over abstract values, printed by a program (wtext.py). -/
namespace Go.Sh
open Go Go.Abs

def sha_Hex.L3.b (v3 : AVal) (x3_3 : AVal) (x7_3 : AVal) (H4 : AHeap) (Kn5 : List AVal → AHeap → Prop) (Ke6 : AExit → List AVal → AHeap → Prop) : Prop :=
  vb (aBin .lss x7_3 (.int .i64 32)) fun v7 =>
  isB v7 fun b8 => cond b8
    (vb (aIndexArr 32 false 1 v3 x7_3) fun v9 =>
    vb (aBin .shr v9 (.int .u64 4)) fun v10 =>
    vb (aIndexStr (.str [48, 49, 50, 51, 52, 53, 54, 55, 56, 57, 97, 98, 99, 100, 101, 102]) v10) fun v11 =>
    vb (aBin .and v9 (.int .u8 15)) fun v12 =>
    vb (aIndexStr (.str [48, 49, 50, 51, 52, 53, 54, 55, 56, 57, 97, 98, 99, 100, 101, 102]) v12) fun v13 =>
    hb (aBuildSlice H4 1 [.int .u8 0] 2 [(0, v11), (1, v13)]) fun v14 H15 =>
    hb (aAppendS H15 1 1 x3_3 v14) fun v16 H17 =>
    vb (aBin .add x7_3 (.int .i64 1)) fun v18 =>
    Kn5 [v16, v18] H17)
    (Ke6 (.exit 0) [x3_3] H4)

def sha_Hex.L3 (v3 : AVal) : Body := fun vs H Kn Ke => sha_Hex.L3.b v3 (vs.getD 0 .undef) (vs.getD 1 .undef) H Kn Ke

def sha_Hex.w (x0 : AVal) (H : AHeap) (K : AVal → AHeap → Prop) : Prop :=
  hb (aBox H x0) fun v1 H2 =>
  vb (aLoad H2 true 32 v1) fun v3 =>
  LoopP (sha_Hex.L3 v3) [.nils, .int .i64 0] H2 fun e19 vs20 H21 =>
    onE e19 (.exit 0)
      (vb (aBytes2Str H21 (vs20.getD 0 .undef)) fun v22 =>
      fin .ret [.v (v22)] H21 K)
    (False)

def sha_New.w (H : AHeap) (K : AVal → AHeap → Prop) : Prop :=
  cb (S_sha_Words [] H) fun v1 H2 =>
  vb (aBuild [.int .u32 0, .int .u32 0, .int .u32 0, .int .u32 0, .int .u32 0, .int .u32 0, .int .u32 0, .int .u32 0, .nils, .int .i64 0] (fun k => ([(0, 8), (8, 1), (9, 1)] : List (Nat × Nat))[k]?) [(0, v1)]) fun v3 =>
  hb (aBox H2 v3) fun v4 H5 =>
  fin .ret [.v (v4)] H5 K

def sha_Hasher_Add.L5.b (x0 : AVal) (x5_5 : AVal) (H25 : AHeap) (Kn26 : List AVal → AHeap → Prop) (Ke27 : AExit → List AVal → AHeap → Prop) : Prop :=
  vb (lenSl x5_5) fun v28 =>
  vb (aBin .geq v28 (.int .i64 64)) fun v29 =>
  isB v29 fun b30 => cond b30
    (vb (aNilCheck x0) fun v31 =>
    vb (aFieldAddr 0 v31) fun v32 =>
    vb (aLoad H25 true 8 v32) fun v33 =>
    vb (aSlice H25 1 x5_5 none (some (.int .i64 64)) (some (.int .i64 64))) fun v34 =>
    vb (aBytes2Str H25 v34) fun v35 =>
    cb (S_sha_work [v33, v35] H25) fun v36 H37 =>
    vb (aNilCheck x0) fun v38 =>
    vb (aFieldAddr 0 v38) fun v39 =>
    sb (aStore H37 8 v39 v36) fun H40 =>
    vb (aSlice H40 1 x5_5 (some (.int .i64 64)) none none) fun v41 =>
    Kn26 [v41] H40)
    (Ke27 (.exit 0) [x5_5] H25)

def sha_Hasher_Add.L5 (x0 : AVal) : Body := fun vs H Kn Ke => sha_Hasher_Add.L5.b x0 (vs.getD 0 .undef) H Kn Ke

def sha_Hasher_Add.w (x0 : AVal) (x1 : AVal) (H : AHeap) (K : AVal → AHeap → Prop) : Prop :=
  vb (aEql false .ptr H x0 .nilp) fun v1 =>
  isB v1 fun b2 => cond b2
    (fin .ret [.v (.nilp)] H K)
    (vb (aNilCheck x0) fun v3 =>
    vb (aFieldAddr 9 v3) fun v4 =>
    vb (aLoad H false 1 v4) fun v5 =>
    vb (lenSt x1) fun v6 =>
    vb (aBin .add v5 v6) fun v7 =>
    vb (aNilCheck x0) fun v8 =>
    vb (aFieldAddr 9 v8) fun v9 =>
    sb (aStore H 1 v9 v7) fun H10 =>
    vb (aNilCheck x0) fun v11 =>
    vb (aFieldAddr 8 v11) fun v12 =>
    vb (aLoad H10 false 1 v12) fun v13 =>
    vb (aNilCheck x0) fun v14 =>
    vb (aFieldAddr 8 v14) fun v15 =>
    vb (aLoad H10 false 1 v15) fun v16 =>
    vb (lenSl v16) fun v17 =>
    vb (aNilCheck x0) fun v18 =>
    vb (aFieldAddr 8 v18) fun v19 =>
    vb (aLoad H10 false 1 v19) fun v20 =>
    vb (lenSl v20) fun v21 =>
    vb (aSlice H10 1 v13 none (some v17) (some v21)) fun v22 =>
    hb (aAppend H10 1 1 v22 x1) fun v23 H24 =>
    LoopP (sha_Hasher_Add.L5 x0) [v23] H24 fun e42 vs43 H44 =>
      onE e42 (.exit 0)
        (hb (aAppendS H44 1 1 .nils (vs43.getD 0 .undef)) fun v45 H46 =>
        vb (aNilCheck x0) fun v47 =>
        vb (aFieldAddr 8 v47) fun v48 =>
        sb (aStore H46 1 v48 v45) fun H49 =>
        fin .ret [.v (x0)] H49 K)
      (False))

def sha_Hasher_Digest_1.w (x0 : AVal) (x1 : AVal) (H : AHeap) (K : AVal → AHeap → Prop) : Prop :=
  vb (aLoad H true 8 x0) fun v1 =>
  vb (aLoad H false 1 x1) fun v2 =>
  vb (aSliceStr v2 none (some (.int .i64 64))) fun v3 =>
  cb (S_sha_work [v1, v3] H) fun v4 H5 =>
  sb (aStore H5 8 x0 v4) fun H6 =>
  vb (aLoad H6 false 1 x1) fun v7 =>
  vb (aSliceStr v7 (some (.int .i64 64)) none) fun v8 =>
  sb (aStore H6 1 x1 v8) fun H9 =>
  fin .normal [] H9 K

def sha_Hasher_Digest.L6.b (v18 : AVal) (v24 : AVal) (H27 : AHeap) (Kn28 : List AVal → AHeap → Prop) (Ke29 : AExit → List AVal → AHeap → Prop) : Prop :=
  vb (aLoad H27 false 1 v18) fun v30 =>
  vb (lenSt v30) fun v31 =>
  vb (aBin .gtr v31 (.int .i64 0)) fun v32 =>
  isB v32 fun b33 => cond b33
    (cb (S_sha_Hasher_Digest_1 [v24, v18] H27) fun v34 H35 =>
    Kn28 [] H35)
    (Ke29 (.exit 0) [] H27)

def sha_Hasher_Digest.L6 (v18 : AVal) (v24 : AVal) : Body := fun vs H Kn Ke => sha_Hasher_Digest.L6.b v18 v24 H Kn Ke

def sha_Hasher_Digest.w (x0 : AVal) (H : AHeap) (K : AVal → AHeap → Prop) : Prop :=
  hb (aAlloc H (List.replicate 32 (.int .u8 0))) fun v1 H2 =>
  vb (aEql false .ptr H2 x0 .nilp) fun v3 =>
  isB v3 fun b4 => cond b4
    (cb (S_sha_Sum [.str []] H2) fun v5 H6 =>
    sb (aStore H6 32 v1 v5) fun H7 =>
    fin .ret [.c true 32 (v1)] H7 K)
    (vb (aNilCheck x0) fun v8 =>
    vb (aFieldAddr 8 v8) fun v9 =>
    vb (aLoad H2 false 1 v9) fun v10 =>
    vb (aBytes2Str H2 v10) fun v11 =>
    vb (aNilCheck x0) fun v12 =>
    vb (aFieldAddr 9 v12) fun v13 =>
    vb (aLoad H2 false 1 v13) fun v14 =>
    cb (S_sha_tail [v14] H2) fun v15 H16 =>
    vb (aBin .add v11 v15) fun v17 =>
    hb (aAlloc H16 [.str []]) fun v18 H19 =>
    sb (aStore H19 1 v18 v17) fun H20 =>
    vb (aNilCheck x0) fun v21 =>
    vb (aFieldAddr 0 v21) fun v22 =>
    vb (aLoad H20 true 8 v22) fun v23 =>
    hb (aAlloc H20 (List.replicate 8 (.int .u32 0))) fun v24 H25 =>
    sb (aStore H25 8 v24 v23) fun H26 =>
    LoopP (sha_Hasher_Digest.L6 v18 v24) [] H26 fun e36 vs37 H38 =>
      onE e36 (.exit 0)
        (vb (aLoad H38 true 8 v24) fun v39 =>
        cb (S_sha_digest [v39] H38) fun v40 H41 =>
        sb (aStore H41 32 v1 v40) fun H42 =>
        fin .ret [.c true 32 (v1)] H42 K)
      (False))

def sha_Pad.w (x0 : AVal) (H : AHeap) (K : AVal → AHeap → Prop) : Prop :=
  vb (lenSt x0) fun v1 =>
  cb (S_sha_tail [v1] H) fun v2 H3 =>
  vb (aBin .add x0 v2) fun v4 =>
  fin .ret [.v (v4)] H3 K

def sha_Work.w (x0 : AVal) (x1 : AVal) (H : AHeap) (K : AVal → AHeap → Prop) : Prop :=
  hb (aBox H x0) fun v1 H2 =>
  hb (aAlloc H2 (List.replicate 8 (.int .u32 0))) fun v3 H4 =>
  vb (lenSt x1) fun v5 =>
  vb (aBin .neq v5 (.int .i64 64)) fun v6 =>
  isB v6 fun b7 => cond b7
    (vb (aBuild (List.replicate 8 (.int .u32 0)) (fun k => some (k * 1, 1)) []) fun v8 =>
    sb (aStore H4 8 v3 v8) fun H9 =>
    fin .ret [.c true 8 (v3), .v (.int .i64 6)] H9 K)
    (vb (aLoad H4 true 8 v1) fun v10 =>
    cb (S_sha_work [v10, x1] H4) fun v11 H12 =>
    sb (aStore H12 8 v3 v11) fun H13 =>
    fin .ret [.c true 8 (v3), .v (.int .i64 0)] H13 K)

def sha_Constant.w (x0 : AVal) (H : AHeap) (K : AVal → AHeap → Prop) : Prop :=
  cb (S_sha_constants [] H) fun v1 H2 =>
  hb (aAlloc H2 (List.replicate 64 (.int .u32 0))) fun v3 H4 =>
  sb (aStore H4 64 v3 v1) fun H5 =>
  JoinP (fun Kj6 => vb (aBin .lss x0 (.int .i64 0)) fun v7 =>
    isB v7 fun b8 => cond b8
      (vb (aPick (.bool true) (.bool true) (.tup [])) fun v9 =>
        isB v9 fun b10 => cond b10
          (Kj6 .ret [.int .u32 0, .int .i64 3] H5)
          (Kj6 .normal [.int .u32 0, .int .i64 0] H5))
      (vb (aBin .geq x0 (.int .i64 64)) fun v11 =>
        vb (aPick (.bool false) (.bool true) v11) fun v12 =>
        isB v12 fun b13 => cond b13
          (Kj6 .ret [.int .u32 0, .int .i64 3] H5)
          (Kj6 .normal [.int .u32 0, .int .i64 0] H5)))
  (fun e14 vs15 H16 =>
    onE e14 .normal
      (vb (aIndexAddrArr 64 1 v3 x0) fun v17 =>
      vb (aLoad H16 false 1 v17) fun v18 =>
      fin .ret [.v (v18), .v (.int .i64 0)] H16 K)
    (onE e14 .ret
      (fin .ret [.v (vs15.getD 0 .undef), .v (vs15.getD 1 .undef)] H16 K)
    (False)))

def cellaretlaw03_awake.w (H : AHeap) (K : AVal → AHeap → Prop) : Prop :=
  cb (S_sha_Sum [.str [97, 98, 99]] H) fun v1 H2 =>
  cb (S_sha_Hex [v1] H2) fun v3 H4 =>
  vb (aBin .eql v3 (.str [98, 97, 55, 56, 49, 54, 98, 102, 56, 102, 48, 49, 99, 102, 101, 97, 52, 49, 52, 49, 52, 48, 100, 101, 53, 100, 97, 101, 50, 50, 50, 51, 98, 48, 48, 51, 54, 49, 97, 51, 57, 54, 49, 55, 55, 97, 57, 99, 98, 52, 49, 48, 102, 102, 54, 49, 102, 50, 48, 48, 49, 53, 97, 100])) fun v5 =>
  isB v5 fun b6 => cond b6
    (cb (S_sha_New [] H4) fun v7 H8 =>
    cb (S_sha_Hasher_Add [v7, .str [97]] H8) fun v9 H10 =>
      cb (S_sha_Hasher_Add [v9, .str [98, 99]] H10) fun v11 H12 =>
        cb (S_sha_Hasher_Digest [v11] H12) fun v13 H14 =>
          cb (S_sha_Sum [.str [97, 98, 99]] H14) fun v15 H16 =>
            vb (aEql false (.agg (List.replicate 32 .int)) H16 v13 v15) fun v17 =>
              vb (aPick (.bool true) v17 (.bool false)) fun v18 =>
              fin .ret [.v (v18)] H16 K)
    (vb (aPick (.bool false) (.tup []) (.bool false)) fun v19 =>
              fin .ret [.v (v19)] H4 K)

def cellaretlaw03_ShaHex.L9.b (x4_5 : AVal) (v4 : AVal) (x5_9 : AVal) (x6_9 : AVal) (H14 : AHeap) (Kn15 : List AVal → AHeap → Prop) (Ke16 : AExit → List AVal → AHeap → Prop) : Prop :=
  vb (aBin .lss x6_9 (.int .i64 2)) fun v17 =>
  isB v17 fun b18 => cond b18
    (vb (aBin .mul (.int .i64 2) x4_5) fun v19 =>
    vb (aBin .add v19 x6_9) fun v20 =>
    vb (aIndexStr v4 v20) fun v21 =>
    vb (aInt2 .i64 v21) fun v22 =>
    JoinP (fun Kj23 => vb (aBin .geq v22 (.int .i64 97)) fun v24 =>
      isB v24 fun b25 => cond b25
        (vb (aBin .leq v22 (.int .i64 102)) fun v26 =>
          vb (aPick (.bool true) v26 (.bool false)) fun v27 =>
          isB v27 fun b28 => cond b28
            (vb (aBin .sub v22 (.int .i64 39)) fun v29 =>
            Kj23 .normal [v29] H14)
            (Kj23 .normal [v22] H14))
        (vb (aPick (.bool false) (.tup []) (.bool false)) fun v30 =>
          isB v30 fun b31 => cond b31
            (vb (aBin .sub v22 (.int .i64 39)) fun v32 =>
            Kj23 .normal [v32] H14)
            (Kj23 .normal [v22] H14)))
    (fun e33 vs34 H35 =>
      onE e33 .normal
        (JoinP (fun Kj36 => vb (aBin .lss (vs34.getD 0 .undef) (.int .i64 48)) fun v37 =>
          isB v37 fun b38 => cond b38
            (vb (aPick (.bool true) (.bool true) (.tup [])) fun v39 =>
              isB v39 fun b40 => cond b40
                (Kj36 .ret [.bool false] H35)
                (Kj36 .normal [.undef] H35))
            (vb (aBin .gtr (vs34.getD 0 .undef) (.int .i64 63)) fun v41 =>
              vb (aPick (.bool false) (.bool true) v41) fun v42 =>
              isB v42 fun b43 => cond b43
                (Kj36 .ret [.bool false] H35)
                (Kj36 .normal [.undef] H35)))
        (fun e44 vs45 H46 =>
          onE e44 .normal
            (vb (aBin .mul (.int .i64 16) x5_9) fun v47 =>
            vb (aBin .add v47 (vs34.getD 0 .undef)) fun v48 =>
            vb (aBin .sub v48 (.int .i64 48)) fun v49 =>
            vb (aBin .add x6_9 (.int .i64 1)) fun v50 =>
            Kn15 [v49, v50] H46)
          (onE e44 .ret
            (Ke16 .ret [vs45.getD 0 .undef, x5_9] H46)
          (False))))
      (False)))
    (Ke16 (.exit 2) [.undef, x5_9] H14)

def cellaretlaw03_ShaHex.L9 (x4_5 : AVal) (v4 : AVal) : Body := fun vs H Kn Ke => cellaretlaw03_ShaHex.L9.b x4_5 v4 (vs.getD 0 .undef) (vs.getD 1 .undef) H Kn Ke

def cellaretlaw03_ShaHex.L5.b (v4 : AVal) (v1 : AVal) (x4_5 : AVal) (H9 : AHeap) (Kn10 : List AVal → AHeap → Prop) (Ke11 : AExit → List AVal → AHeap → Prop) : Prop :=
  vb (aBin .lss x4_5 (.int .i64 32)) fun v12 =>
  isB v12 fun b13 => cond b13
    (LoopP (cellaretlaw03_ShaHex.L9 x4_5 v4) [.int .i64 0, .int .i64 0] H9 fun e51 vs52 H53 =>
      onE e51 (.exit 2)
        (vb (aIndexAddrArr 32 1 v1 x4_5) fun v54 =>
        vb (aLoad H53 false 1 v54) fun v55 =>
        vb (aInt2 .i64 v55) fun v56 =>
        vb (aBin .neq (vs52.getD 1 .undef) v56) fun v57 =>
        isB v57 fun b58 => cond b58
          (Ke11 .ret [.bool false] H53)
          (vb (aBin .add x4_5 (.int .i64 1)) fun v59 =>
          Kn10 [v59] H53))
      (onE e51 .ret
        (Ke11 .ret [vs52.getD 0 .undef] H53)
      (False)))
    (Ke11 (.exit 0) [.undef] H9)

def cellaretlaw03_ShaHex.L5 (v4 : AVal) (v1 : AVal) : Body := fun vs H Kn Ke => cellaretlaw03_ShaHex.L5.b v4 v1 (vs.getD 0 .undef) H Kn Ke

def cellaretlaw03_ShaHex.w (x0 : AVal) (H : AHeap) (K : AVal → AHeap → Prop) : Prop :=
  hb (aBox H x0) fun v1 H2 =>
  vb (aLoad H2 true 32 v1) fun v3 =>
  cb (S_sha_Hex [v3] H2) fun v4 H5 =>
  vb (lenSt v4) fun v6 =>
  vb (aBin .neq v6 (.int .i64 64)) fun v7 =>
  isB v7 fun b8 => cond b8
    (fin .ret [.v (.bool false)] H5 K)
    (LoopP (cellaretlaw03_ShaHex.L5 v4 v1) [.int .i64 0] H5 fun e60 vs61 H62 =>
      onE e60 (.exit 0)
        (cb (S_cellaretlaw03_awake [] H62) fun v63 H64 =>
        isB v63 fun b65 => cond b65
          (cb (S_sha_Hasher_Add [.nilp, v4] H64) fun v66 H67 =>
              vb (aEql false .ptr H67 v66 .nilp) fun v68 =>
                vb (aPick (.bool true) v68 (.bool false)) fun v69 =>
                isB v69 fun b70 => cond b70
                  (cb (S_sha_Hasher_Digest [.nilp] H67) fun v71 H72 =>
                    cb (S_sha_Sum [.str []] H72) fun v73 H74 =>
                      vb (aEql false (.agg (List.replicate 32 .int)) H74 v71 v73) fun v75 =>
                        vb (aPick (.bool true) v75 (.bool false)) fun v76 =>
                        fin .ret [.v (v76)] H74 K)
                  (vb (aPick (.bool false) (.tup []) (.bool false)) fun v77 =>
                        fin .ret [.v (v77)] H67 K))
          (vb (aPick (.bool false) (.tup []) (.bool false)) fun v78 =>
                isB v78 fun b79 => cond b79
                  (cb (S_sha_Hasher_Digest [.nilp] H64) fun v80 H81 =>
                    cb (S_sha_Sum [.str []] H81) fun v82 H83 =>
                      vb (aEql false (.agg (List.replicate 32 .int)) H83 v80 v82) fun v84 =>
                        vb (aPick (.bool true) v84 (.bool false)) fun v85 =>
                        fin .ret [.v (v85)] H83 K)
                  (vb (aPick (.bool false) (.tup []) (.bool false)) fun v86 =>
                        fin .ret [.v (v86)] H64 K)))
      (onE e60 .ret
        (fin .ret [.v (vs61.getD 0 .undef)] H62 K)
      (False)))

def cellaretlaw03_ShaParts.L4.b (x0 : AVal) (v1 : AVal) (x4_4 : AVal) (x5_4 : AVal) (H3 : AHeap) (Kn4 : List AVal → AHeap → Prop) (Ke5 : AExit → List AVal → AHeap → Prop) : Prop :=
  JoinP (fun Kj6 => vb (lenSl x0) fun v7 =>
    vb (aBin .lss x5_4 v7) fun v8 =>
    isB v8 fun b9 => cond b9
      (vb (aBin .lss x5_4 (.int .i64 20)) fun v10 =>
        vb (aPick (.bool true) v10 (.bool false)) fun v11 =>
        isB v11 fun b12 => cond b12
          (Kj6 .normal [] H3)
          (Kj6 (.exit 0) [] H3))
      (vb (aPick (.bool false) (.tup []) (.bool false)) fun v13 =>
        isB v13 fun b14 => cond b14
          (Kj6 .normal [] H3)
          (Kj6 (.exit 0) [] H3)))
  (fun e15 vs16 H17 =>
    onE e15 (.exit 0)
      (Ke5 (.exit 0) [.undef, x4_4] H17)
    (onE e15 .normal
      (vb (aIndexAddr 1 x0 x5_4) fun v18 =>
      vb (aLoad H17 false 1 v18) fun v19 =>
      vb (lenSt v19) fun v20 =>
      vb (aBin .gtr v20 (.int .i64 500)) fun v21 =>
      isB v21 fun b22 => cond b22
        (vb (aBin .add x5_4 (.int .i64 1)) fun v23 =>
        Kn4 [x4_4, v23] H17)
        (vb (aIndexAddr 1 x0 x5_4) fun v24 =>
        vb (aLoad H17 false 1 v24) fun v25 =>
        vb (aBin .add x4_4 v25) fun v26 =>
        vb (aIndexAddr 1 x0 x5_4) fun v27 =>
        vb (aLoad H17 false 1 v27) fun v28 =>
        cb (S_sha_Hasher_Add [v1, v28] H17) fun v29 H30 =>
        vb (aEql true .ptr H30 v29 v1) fun v31 =>
        isB v31 fun b32 => cond b32
          (vb (aPick (.bool true) (.bool true) (.tup [])) fun v33 =>
                  isB v33 fun b34 => cond b34
                    (Ke5 .ret [.bool false, v26] H30)
                    (vb (aBin .add x5_4 (.int .i64 1)) fun v35 =>
                    Kn4 [v26, v35] H30))
          (cb (S_sha_Hasher_Digest [v1] H30) fun v36 H37 =>
            cb (S_sha_Sum [v26] H37) fun v38 H39 =>
                vb (aEql true (.agg (List.replicate 32 .int)) H39 v36 v38) fun v40 =>
                  vb (aPick (.bool false) (.bool true) v40) fun v41 =>
                  isB v41 fun b42 => cond b42
                    (Ke5 .ret [.bool false, v26] H39)
                    (vb (aBin .add x5_4 (.int .i64 1)) fun v43 =>
                    Kn4 [v26, v43] H39))))
    (False)))

def cellaretlaw03_ShaParts.L4 (x0 : AVal) (v1 : AVal) : Body := fun vs H Kn Ke => cellaretlaw03_ShaParts.L4.b x0 v1 (vs.getD 0 .undef) (vs.getD 1 .undef) H Kn Ke

def cellaretlaw03_ShaParts.w (x0 : AVal) (H : AHeap) (K : AVal → AHeap → Prop) : Prop :=
  cb (S_sha_New [] H) fun v1 H2 =>
  LoopP (cellaretlaw03_ShaParts.L4 x0 v1) [.str [], .int .i64 0] H2 fun e44 vs45 H46 =>
    onE e44 (.exit 0)
      (cb (S_cellaretlaw03_awake [] H46) fun v47 H48 =>
      isB v47 fun b49 => cond b49
        (cb (S_sha_Hasher_Digest [v1] H48) fun v50 H51 =>
          cb (S_sha_Sum [vs45.getD 1 .undef] H51) fun v52 H53 =>
              vb (aEql false (.agg (List.replicate 32 .int)) H53 v50 v52) fun v54 =>
                vb (aPick (.bool true) v54 (.bool false)) fun v55 =>
                fin .ret [.v (v55)] H53 K)
        (vb (aPick (.bool false) (.tup []) (.bool false)) fun v56 =>
                fin .ret [.v (v56)] H48 K))
    (onE e44 .ret
      (fin .ret [.v (vs45.getD 0 .undef)] H46 K)
    (False))

end Go.Sh

/- The functions of the package sha: digits, a hasher. -/
namespace Go.Sh
open Go Go.Abs

theorem hex_len (d : List UInt8) : (hex d).length = 2 * d.length := by
  induction d with
  | nil => rfl
  | cons b d ih =>
    have : hex (b :: d) = [dig (b.toNat / 16), dig (b.toNat % 16)] ++ hex d := rfl
    rw [this, List.length_append, ih, List.length_cons]
    simp; omega
theorem hex_snoc (d : List UInt8) (b : UInt8) : hex (d ++ [b]) = hex d ++ [dig (b.toNat / 16), dig (b.toNat % 16)] := by simp [hex]

/-- append(s, x, y), of one cell each -/
theorem push2 {B : AHeap} {sv x y z : AVal} {bytes n : Nat} {cs : List AVal} (h : Own B sv 1 n cs) (hx : x.sc = true) (hy : y.sc = true) (h1 : (n + 2) * bytes ≤ room) (h2 : n + 2 ≤ room)
    {K : AVal → AHeap → Prop} (k : ∀ sv' B', Own B' sv' 1 (n + 2) (cs ++ [x, y]) → Keeps B sv B' → (slId sv' = slId sv ∨ ∃ i, slId sv' = some i ∧ B.length ≤ i) → K sv' B') :
    hb (aBuildSlice B 1 [z] 2 [(0, x), (1, y)]) fun t B1 => hb (aAppendS B1 1 bytes sv t) K := by
  refine hb_i (v := .slice ⟨B.length, 0, 0⟩ 2 (.ex 2)) (H := B ++ [.cells 0 .exact [x, y]]) ?_ ?_
  · have e : fillCells 2 [z] = [z, z] := rfl
    simp (disch := first | exact hx | exact hy | (simp only [len_cons, len_nil, len_set]; omega) | fail) only [x_buildSlice, e, evF, Nat.mul_one, List.set_cons_zero, List.set_cons_succ, Nat.zero_mul, Nat.one_mul]
  · have hp : B <+: B ++ [.cells 0 .exact [x, y]] := ⟨_, rfl⟩
    refine append_view (h.pre hp) (by decide) (m := 2) (xs := [x, y]) ⟨rfl, .inr ⟨B.length, 0, 0, _, .exact, [x, y], rfl, by simp, by simp, rfl, Nat.le_refl _⟩⟩ (by simp [sc_cell hx, sc_cell hy]) h1 h2 fun sv' B' o kk hi => ?_
    refine k sv' B' o ⟨by have := kk.len; simp at this; omega, fun q hq hne => by rw [kk.get q (by simp; omega) hne, pre_get hp hq]⟩ ?_
    rcases hi with hi | hi
    · exact .inl hi
    · exact .inr ⟨_, hi, by simp⟩

theorem sha_Hex.ok (args : List AVal) (H : AHeap) (r : AVal) (H' : AHeap) (h : S_sha_Hex args H r H') : ∃ x0, args = [x0] ∧ sha_Hex.w x0 H fun r1 H1 => Weak H r1 H1 r H' := by
  obtain ⟨d, rfl, hd, rfl, rfl⟩ := h
  refine ⟨_, rfl, ?_⟩
  unfold sha_Hex.w
  simp (disch := first | omega | (simp only [len_map, hd]; done) | fail) only [ev, evH, List.getElem?_cons_zero]
  refine LoopP.ruleG (α := AVal × Nat) (fun a => [a.1, .int .i64 a.2])
    (fun a B => a.2 ≤ 32 ∧ H' <+: B ∧ (∀ i, slId a.1 = some i → H'.length ≤ i) ∧ Own B a.1 1 (2 * a.2) ((hex (d.take a.2)).map ofByte)) (fun a => 32 - a.2) (.nils, 0) rfl
    ⟨Nat.zero_le _, pre_app _ _, fun i hi => (by cases hi), Own.nils _ _⟩ ?_
  rintro ⟨sv, k⟩ B Kn ⟨hk, hp, hid, ho⟩ hn
  simp only at hk ho hid
  unfold sha_Hex.L3 sha_Hex.L3.b
  simp only [List.getD_cons_zero, List.getD_cons_succ, ev]
  refine isB_d (fun h1 => ?_) (fun h1 => ?_)
  · have hb := (d.getD k 0).toNat_lt
    have hs : aBin .shr (ofByte (d.getD k 0)) (.int .u64 4) = some (.int .u8 (((d.getD k 0).toNat / 16 : Nat) : Int)) := by
      rw [ofByte, shr_int .u8 .u64 (by omega) (by omega) (by decide)]; rfl
    have ha : aBin .and (ofByte (d.getD k 0)) (.int .u8 15) = some (.int .u8 (((d.getD k 0).toNat % 16 : Nat) : Int)) := by
      have : ∀ n : Fin 256, IntKind.wrap .u8 ((BitVec.ofInt 8 ((n.val : Nat) : Int) &&& BitVec.ofInt 8 15).toNat : Int) = ((n.val % 16 : Nat) : Int) := by decide +kernel
      exact congrArg (fun z => some (AVal.int .u8 z)) (this ⟨(d.getD k 0).toNat, hb⟩)
    simp (disch := first | omega | (simp only [evS]; done) | (simp only [len_map, len_cons, len_nil, hd] <;> omega) | fail) only [ev, evU, getD_map (0 : UInt8), Int.toNat_natCast, hs, ha]
    refine push2 ho rfl rfl (by simp only [room]; omega) (by simp only [room]; omega) fun sv' B' o kk hi => ?_
    refine hn (sv', k + 1) B' ⟨by simp only; omega, kk.pre hp hid, fun i hi' => ?_, ?_⟩ (by simp only; omega)
    · rcases hi with hi | ⟨j, hj, hj2⟩
      · exact hid i (by rw [← hi]; exact hi')
      · simp only at hi'
        rw [hj] at hi'; cases hi'
        have := hp.length_le; omega
    · simp only
      rw [List.take_succ_eq_append_getElem (by omega), hex_snoc]
      have hg : d[k] = d.getD k 0 := by simp [List.getD, show k < d.length by omega]
      rw [hg, List.map_append]
      exact o
  · have : k = 32 := by omega
    subst this
    rw [List.take_of_length_le (by omega)] at ho
    simp only [ev]
    rw [bytes_str ho.view]
    simp only [vb_some]
    exact fin_ret (rvs_v (rvs_nil _)) (Weak.plain rfl hp)
end Go.Sh

/- The functions of the package sha: a hasher. -/
namespace Go.Sh
open Go Go.Abs

theorem ren_agg {ρ σ : Nat → Nat} {n : Nat} {cs : List AVal} (h : ∀ x ∈ cs, x.plain = true) : Ren ρ σ n (.agg cs) (.agg cs) := by
  simp only [Ren]; exact ⟨cs, rfl, RenL.plain h⟩
theorem renL_cons {ρ σ : Nat → Nat} {n : Nat} {x y : AVal} {xs ys : List AVal} (h : Ren ρ σ n x y) (k : RenL ρ σ n xs ys) : RenL ρ σ n (x :: xs) (y :: ys) := by
  simp only [RenL]; exact ⟨y, ys, rfl, h, k⟩
theorem renL_nil {ρ σ : Nat → Nat} {n : Nat} : RenL ρ σ n [] [] := by simp only [RenL]
theorem ren_tup {ρ σ : Nat → Nat} {n : Nat} {xs ys : List AVal} (h : RenL ρ σ n xs ys) : Ren ρ σ n (.tup xs) (.tup ys) := by
  simp only [Ren]; exact ⟨ys, rfl, h⟩

theorem sha_New.ok (args : List AVal) (H : AHeap) (r : AVal) (H' : AHeap) (h : S_sha_New args H r H') : args = [] ∧ sha_New.w H fun r1 H1 => Weak H r1 H1 r H' := by
  obtain ⟨rfl, rfl, rfl⟩ := h
  refine ⟨rfl, ?_⟩
  unfold sha_New.w
  refine cb_i _ _ ⟨rfl, rfl, rfl⟩ ?_
  refine vb_i (v := .agg (hcells [] .nils)) rfl ?_
  refine hb_i rfl ?_
  refine fin_ret (rvs_v (rvs_nil _)) ?_
  refine Weak.block (k := H.length) (v := 0) ?_ (pre_app _ _) (Nat.le_refl _) (by rw [app_get0]; rfl) ?_
  · intro x hx
    simp only [hcells, List.mem_append] at hx
    rcases hx with hx | hx
    · exact map_plain U_plain _ x hx
    · simp only [List.mem_cons, List.not_mem_nil, or_false] at hx
      rcases hx with rfl | rfl <;> rfl
  · simp [tup1, Ren]

theorem sha_Hasher_Digest_1.ok (args : List AVal) (H : AHeap) (r : AVal) (H' : AHeap) (h : S_sha_Hasher_Digest_1 args H r H') :
    ∃ x0 x1, args = [x0, x1] ∧ sha_Hasher_Digest_1.w x0 x1 H fun r1 H1 => r1 = r ∧ H1 = H' := by
  obtain ⟨i, v, j, w, h, s, rfl, h1, hh, h2, hs, hij, rfl, rfl⟩ := h
  refine ⟨_, _, rfl, ?_⟩
  unfold sha_Hasher_Digest_1.w
  simp (disch := first | omega | (simp only [len_map, len_cons, len_nil, hh]; done) | (simp only [len_map, len_cons, len_nil] <;> omega) | fail) only [ev, evH, h1, h2, List.getD_cons_zero]
  refine cb_i _ _ ⟨_, _, rfl, hh, ?_, rfl, rfl⟩ ?_
  · simp; omega
  have hwl := work_len h (s.take (Int.toNat 64))
  have e2 : (H.set i (.cells v .exact ((work h (s.take (Int.toNat 64))).map U)))[j]? = some (.cells w .exact [.str s]) := by rw [List.getElem?_set_ne hij]; exact h2
  simp (disch := first | omega | (simp only [evS]; done) | (simp only [len_map, len_cons, len_nil, hh, hwl]; done) | (simp only [len_map, len_cons, len_nil] <;> omega) | fail) only [ev, evH, h1, e2, List.getD_cons_zero, List.set_cons_zero]
  exact fin_normal (rvs_nil _) ⟨rfl, rfl⟩

theorem sha_Pad.ok (args : List AVal) (H : AHeap) (r : AVal) (H' : AHeap) (h : S_sha_Pad args H r H') : ∃ x0, args = [x0] ∧ sha_Pad.w x0 H fun r1 H1 => Weak H r1 H1 r H' := by
  obtain ⟨s, rfl, hs, rfl, rfl⟩ := h
  refine ⟨_, rfl, ?_⟩
  unfold sha_Pad.w
  simp only [ev]
  refine cb_i _ _ ⟨s.length, rfl, hs, rfl, rfl⟩ ?_
  have hz : zeros s.length = (119 - s.length % 64) % 64 := rfl
  have htl := tailB_len s.length
  simp (disch := omega) only [ev]
  exact fin_ret (rvs_v (rvs_nil _)) (Weak.plain rfl (List.prefix_refl _))

theorem sha_Work.ok (args : List AVal) (H : AHeap) (r : AVal) (H' : AHeap) (h : S_sha_Work args H r H') : ∃ x0 x1, args = [x0, x1] ∧ sha_Work.w x0 x1 H fun r1 H1 => Weak H r1 H1 r H' := by
  obtain ⟨h, s, rfl, hh, rfl, rfl⟩ := h
  refine ⟨_, _, rfl, ?_⟩
  unfold sha_Work.w
  simp only [ev, evH, List.append_assoc, List.cons_append, List.nil_append, List.length_append, List.length_cons, List.length_nil, Nat.zero_add]
  refine isB_d (fun h1 => ?_) (fun h1 => ?_)
  · rw [if_neg (by omega)]
    simp (disch := first | omega | (simp only [len_rep]; done) | (simp only [evS]; done) | fail) only [ev, evF, evH, List.getElem?_cons_zero, List.getElem?_cons_succ, List.set_cons_zero, List.set_cons_succ]
    refine fin_ret (vs := [.agg (List.replicate 8 (.int .u32 0)), .int .i64 6]) ?_ (Weak.cells ?_ (pre_app _ _))
    · exact rvs_c (e_loadAll (by rw [app_get]; rfl) rfl) (rvs_v (rvs_nil _))
    · exact ren_tup (renL_cons (ren_agg (fun x hx => by rw [List.eq_of_mem_replicate hx]; rfl)) (renL_cons (Ren.plain rfl) renL_nil))
  · have h64 : s.length = 64 := by omega
    rw [if_pos h64]
    simp (disch := first | omega | (simp only [len_map, hh]; done) | fail) only [ev, evH, List.getElem?_cons_zero]
    refine cb_i _ _ ⟨_, _, rfl, hh, h64, rfl, rfl⟩ ?_
    have hwl := work_len h s
    simp (disch := first | omega | (simp only [evS]; done) | (simp only [len_map, len_rep, hwl]; done) | fail) only [ev, evH, List.getElem?_cons_zero, List.getElem?_cons_succ, List.set_cons_zero, List.set_cons_succ]
    refine fin_ret (vs := [.agg ((work h s).map U), .int .i64 0]) ?_ (Weak.cells ?_ (pre_app _ _))
    · exact rvs_c (e_loadAll (by rw [app_get]; rfl) rfl) (rvs_v (rvs_nil _))
    · exact ren_tup (renL_cons (ren_agg (map_plain U_plain _)) (renL_cons (Ren.plain rfl) renL_nil))
end Go.Sh

/- The functions of the package sha: a hasher's sum. -/
namespace Go.Sh
open Go Go.Abs

theorem hcells_len (all : List UInt8) (rv : AVal) : (hcells all rv).length = 10 := by
  simp [hcells, eat_len _ first all rfl]
theorem hcells_8 (all : List UInt8) (rv : AVal) : (hcells all rv).getD (0 + 8) .undef = rv := by
  have := eat_len (all.length / 64) first all rfl
  simp [hcells, List.getD, this]
theorem hcells_9 (all : List UInt8) (rv : AVal) : (hcells all rv).getD (0 + 9) .undef = .int .i64 all.length := by
  have := eat_len (all.length / 64) first all rfl
  simp [hcells, List.getD, this]
theorem hcells_h (all : List UInt8) (rv : AVal) : ((hcells all rv).drop (0 + 0)).take 8 = (eat (all.length / 64) first all).map U := by
  have := eat_len (all.length / 64) first all rfl
  simp [hcells, this]

theorem sha_Hasher_Digest.ok (args : List AVal) (H : AHeap) (r : AVal) (H' : AHeap) (h : S_sha_Hasher_Digest args H r H') : ∃ x0, args = [x0] ∧ sha_Hasher_Digest.w x0 H fun r1 H1 => Weak H r1 H1 r H' := by
  rcases h with ⟨rfl, rfl, rfl⟩ | ⟨i, v, all, rv, rfl, hr, rfl, rfl⟩
  · refine ⟨_, rfl, ?_⟩
    unfold sha_Hasher_Digest.w
    simp only [ev, evH]
    refine cb_i _ _ ⟨_, rfl, by simp, rfl, rfl⟩ ?_
    have hl := sum_len []
    simp (disch := first | omega | (simp only [evS]; done) | (simp only [len_map, len_rep, hl]; done) | fail) only [ev, evH, List.getElem?_cons_zero, List.set_cons_zero]
    refine fin_ret (vs := [.agg ((sum []).map ofByte)]) ?_ (Weak.agg (map_plain (fun _ => rfl) _) (pre_app _ _))
    exact rvs_c (e_loadAll (by rw [app_get0]; rfl) (by simp [hl])) (rvs_nil _)
  · refine ⟨_, rfl, ?_⟩
    unfold sha_Hasher_Digest.w
    have hc : ∀ L, (H' ++ L)[i]? = some (.cells v .exact (hcells all rv)) := fun L => (hr.pre (pre_app H' L)).cell
    have hb : ∀ L, aBytes2Str (H' ++ L) rv = some (.str (rest all)) := fun L => bytes_str (hr.pre (pre_app H' L)).own.view
    have h10 := hcells_len all rv
    have hlen := hr.len
    simp (disch := first | omega | fail) only [ev, evH, hc, hcells_8, hcells_9, hb]
    refine cb_i _ _ ⟨all.length, rfl, by omega, rfl, rfl⟩ ?_
    have htl := tailB_len all.length
    have hz : zeros all.length = (119 - all.length % 64) % 64 := rfl
    have hrl : (rest all).length = all.length - 64 * (all.length / 64) := by simp [rest]
    have he8 := eat_len (all.length / 64) first all rfl
    simp (disch := first | omega | (simp only [evS]; done) | (simp only [len_map, len_rep, len_cons, len_nil, he8] <;> omega) | fail) only [ev, evH, x_loadN, x_ldN, hc, hcells_h, List.append_assoc, List.cons_append, List.nil_append, List.length_append, List.length_cons, List.length_nil, Nat.zero_add, Nat.add_assoc, Nat.reduceAdd, List.getElem?_cons_zero, List.getElem?_cons_succ, List.set_cons_zero, List.set_cons_succ]
    have hpa : rest all ++ tailB all.length = (pad all).drop (64 * (all.length / 64)) := by
      rw [pad, List.drop_append_of_le_length (by omega)]; rfl
    have hpe : eat (all.length / 64) first all = eat (all.length / 64) first (pad all) := (eat_app _ first all _ (by omega)).symm
    have hpm := pad_mod all
    have hpl : (pad all).length = all.length + (9 + zeros all.length) := by rw [pad, List.length_append, htl]
    rw [hpa, hpe]
    generalize hq : all.length / 64 = q at *
    generalize hp : pad all = p at *
    refine LoopP.ruleG (α := Nat) (fun _ => [])
      (fun j B => q ≤ j ∧ 64 * j ≤ p.length ∧ B = H' ++ [.cells 0 .exact (List.replicate 32 (.int .u8 0)), .cells 0 .exact [.str (p.drop (64 * j))], .cells 0 .exact ((eat j first p).map U)]) (fun j => p.length - 64 * j) q rfl ⟨Nat.le_refl _, by omega, rfl⟩ ?_
    rintro j B Kn ⟨hj1, hj2, rfl⟩ hn
    unfold sha_Hasher_Digest.L6 sha_Hasher_Digest.L6.b
    simp (disch := first | omega | (simp only [len_cons, len_nil]; omega) | fail) only [ev, evH, List.getElem?_cons_zero, List.getElem?_cons_succ, List.getD_cons_zero, List.length_drop]
    have he := eat_len j first p rfl
    refine isB_d (fun h1 => ?_) (fun h1 => ?_)
    · refine cb_i _ _ ⟨_, _, _, _, eat j first p, p.drop (64 * j), rfl, by rw [app_get]; rfl, he, by rw [app_get]; rfl, ?_, by omega, rfl, rfl⟩ ?_
      · simp; omega
      · simp only [app_set, List.set_cons_zero, List.set_cons_succ]
        refine hn (j + 1) _ ⟨by omega, by omega, ?_⟩ (by omega)
        rw [eat_succ, List.drop_drop]; rfl
    · have hjj : j = p.length / 64 := by omega
      simp (disch := first | omega | (simp only [evS]; done) | (simp only [len_map, he] <;> omega) | fail) only [ev, evH, List.getElem?_cons_zero, List.getElem?_cons_succ]
      refine cb_i _ _ ⟨_, rfl, he, rfl, rfl⟩ ?_
      have hdl := digest_len he
      simp (disch := first | omega | (simp only [evS]; done) | (simp only [len_map, len_rep, hdl] <;> omega) | fail) only [ev, evH, List.getElem?_cons_zero, List.getElem?_cons_succ, List.set_cons_zero, List.set_cons_succ]
      have hsum : sum all = digest (eat j first p) := by rw [sum, hp, hjj]
      rw [hsum]
      refine fin_ret (vs := [.agg ((digest (eat j first p)).map ofByte)]) ?_ (Weak.agg (map_plain (fun _ => rfl) _) (pre_app _ _))
      exact rvs_c (e_loadAll (by rw [app_get0]; rfl) (by simp [hdl])) (rvs_nil _)

theorem sha_Constant.ok (args : List AVal) (H : AHeap) (r : AVal) (H' : AHeap) (h : S_sha_Constant args H r H') : ∃ x0, args = [x0] ∧ sha_Constant.w x0 H fun r1 H1 => Weak H r1 H1 r H' := by
  obtain ⟨k, rfl, rfl, rfl⟩ := h
  refine ⟨_, rfl, ?_⟩
  unfold sha_Constant.w
  have hkl : kk.length = 64 := rfl
  refine cb_i _ _ ⟨rfl, rfl, rfl⟩ ?_
  simp (disch := first | omega | (simp only [evS]; done) | (simp only [len_map, len_rep, hkl] <;> omega) | fail) only [ev, evH, List.getElem?_cons_zero, List.set_cons_zero]
  refine JoinP.mk (fun e vs B => B = H' ++ [.cells 0 .exact (kk.map U)] ∧ vs = [.int .u32 0, .int .i64 (if e = .normal then 0 else 3)] ∧ ((e = .normal ∧ 0 ≤ k ∧ k < 64) ∨ (e = .ret ∧ ¬ (0 ≤ k ∧ k < 64)))) ?_ ?_
  · refine isB_d (fun h1 => ?_) (fun h1 => ?_)
    · exact ⟨rfl, rfl, .inr ⟨rfl, by omega⟩⟩
    · rw [cond_false]
      refine isB_d (fun h2 => ?_) (fun h2 => ?_)
      · exact ⟨by rfl, by rfl, .inr ⟨by rfl, by omega⟩⟩
      · exact ⟨by rfl, by rfl, .inl ⟨by rfl, by omega, by omega⟩⟩
  · rintro e vs B ⟨rfl, rfl, ⟨rfl, h1, h2⟩ | ⟨rfl, h1⟩⟩
    · rw [onE_same]
      simp (disch := first | omega | (simp only [len_map, hkl] <;> omega) | fail) only [ev, evH, List.getElem?_cons_zero, getD_map (0 : W32), Nat.zero_add, Nat.mul_one]
      rw [if_pos ⟨h1, h2⟩]
      refine fin_ret (rvs_v (rvs_v (rvs_nil _))) (Weak.cells (ren_tup (renL_cons (Ren.plain ?_) (renL_cons (Ren.plain rfl) renL_nil))) (pre_app _ _))
      rfl
    · rw [if_neg h1]
      exact fin_ret (rvs_v (rvs_v (rvs_nil _))) (Weak.cells (ren_tup (renL_cons (Ren.plain rfl) (renL_cons (Ren.plain rfl) renL_nil))) (pre_app _ _))
end Go.Sh

/- The functions of the package sha: a hasher is given bytes. -/
namespace Go.Sh
open Go Go.Abs

theorem hcells_set9 (all : List UInt8) (rv x : AVal) : (hcells all rv).set 9 x = (eat (all.length / 64) first all).map U ++ [rv, x] := by
  have := eat_len (all.length / 64) first all rfl
  simp only [hcells]
  rw [List.set_append_right _ _ (by simp [this])]
  simp [this]

theorem eight_get8 {l : List W32} (h : l.length = 8) (x y : AVal) : (l.map U ++ [x, y]).getD 8 .undef = x := by
  simp [List.getD, h]
theorem eight_set8 {l : List W32} (h : l.length = 8) (x y z : AVal) : (l.map U ++ [x, y]).set 8 z = l.map U ++ [z, y] := by
  rw [List.set_append_right _ _ (by simp [h])]; simp [h]
theorem eight_take {l : List W32} (h : l.length = 8) (x y : AVal) : ((l.map U ++ [x, y]).drop 0).take 8 = l.map U := by simp [h]
theorem eight_splice {l k : List W32} (h : l.length = 8) (h' : k.length = 8) (x y : AVal) : splice (l.map U ++ [x, y]) 0 (k.map U) = k.map U ++ [x, y] := by simp [splice, h, h']
theorem eight_len {l : List W32} (h : l.length = 8) (x y : AVal) : (l.map U ++ [x, y]).length = 10 := by simp [h]

theorem RenL.append {ρ σ : Nat → Nat} {n : Nat} : ∀ {xs ys xs' ys' : List AVal}, RenL ρ σ n xs ys → RenL ρ σ n xs' ys' → RenL ρ σ n (xs ++ xs') (ys ++ ys')
  | [], _, _, _, h, h' => by simp only [RenL] at h; subst h; exact h'
  | x :: xs, _, _, _, h, h' => by
    simp only [RenL] at h; obtain ⟨y, ys, rfl, h1, h2⟩ := h
    exact renL_cons h1 (RenL.append h2 h')

theorem sha_Hasher_Add.ok (args : List AVal) (H : AHeap) (r : AVal) (H' : AHeap) (h : S_sha_Hasher_Add args H r H') : ∃ x0 x1, args = [x0, x1] ∧ sha_Hasher_Add.w x0 x1 H fun r1 H1 => Weak H r1 H1 r H' := by
  rcases h with ⟨s, rfl, rfl, rfl⟩ | ⟨i, v, s, all, rv, rfl, hr, hT, rfl, rfl⟩
  · refine ⟨_, _, rfl, ?_⟩
    unfold sha_Hasher_Add.w
    simp only [ev]
    exact fin_ret (rvs_v (rvs_nil _)) (Weak.plain rfl (List.prefix_refl _))
  · refine ⟨_, _, rfl, ?_⟩
    unfold sha_Hasher_Add.w
    have hc := hr.cell
    have hi := lt_of_some hc
    have h10 := hcells_len all rv
    have hq8 := eat_len (all.length / 64) first all rfl
    have hTl : (all ++ s).length = all.length + s.length := List.length_append
    rw [hTl] at hT
    have hgi : ∀ o, (H.set i o)[i]? = some o := fun o => List.getElem?_set_self hi
    have ov := hr.own.view
    have hrl : (rest all).length = all.length - 64 * (all.length / 64) := by simp [rest]
    simp (disch := first | omega | (simp only [evS]; done) | (simp only [eight_len hq8] <;> omega) | fail) only [ev, evH, hc, hcells_9, Nat.zero_add, hcells_set9, hgi, eight_get8 hq8, lenSl_view ov]
    have ov2 := ov.set hr.ne (.cells v .exact ((eat (all.length / 64) first all).map U ++ [rv, .int .i64 ((all.length : Int) + s.length)]))
    generalize hH10 : H.set i (.cells v .exact ((eat (all.length / 64) first all).map U ++ [rv, .int .i64 ((all.length : Int) + s.length)])) = H10 at *
    obtain ⟨b0, hb1, hb2, hb3, hb4⟩ := slice_full (h := some (.int .i64 ((rest all).length : Int))) (m := some (.int .i64 ((rest all).length : Int))) (hi := (rest all).length) ov2
      (fun d => by rw [bnd_int (by omega)]; rfl) (fun d => by rw [bnd_int (by omega)]; rfl) rfl (Nat.le_refl _)
      (by
        by_cases e : rest all = []
        · exact .inr (hr.full e)
        · exact .inl (List.length_pos_iff.2 e))
    rw [hb1, vb_some]
    obtain ⟨b1, B1, ha1, ha2, ha3, ha4⟩ := append_full (bytes := 1) (m := s.length) (xs := s.map ofByte) hb2 hb4 (by simp) (by simp only [room]; omega) (by simp only [room]; omega)
    have happ : aAppend H10 1 1 b0 (.str s) = some (b1, B1) := by
      rw [aAppend]
      simp only [srcLen, srcCells, List.take_length]
      exact ha1
    rw [happ, hb_some]
    have hl10 : H10.length = H.length := by rw [← hH10]; simp
    have keep0 : ∀ k, k < H.length → k ≠ i → B1[k]? = H[k]? := fun k hk hne => by
      rw [pre_get ha3 (by omega), ← hH10, List.getElem?_set_ne (Ne.symm hne)]
    have hB1i : B1[i]? = some (.cells v .exact ((eat (all.length / 64) first (all ++ s)).map U ++ [rv, .int .i64 ((all ++ s).length : Int)])) := by
      rw [pre_get ha3 (by omega), ← hH10, hgi, eat_app _ first all s (by omega), hTl, Int.natCast_add]
    have hid1 : slId b1 ≠ some i := by
      rcases ha4 with e | e
      · rw [e, hb3]; exact hr.ne
      · rw [e]; intro e'; cases e'; omega
    have hv1 : View B1 b1 1 ((all ++ s).length - 64 * (all.length / 64)) (((all ++ s).drop (64 * (all.length / 64))).map ofByte) := by
      have e1 : (rest all).length + s.length = (all ++ s).length - 64 * (all.length / 64) := by omega
      have e2 : List.take ((rest all).length * 1) ((rest all).map ofByte) ++ s.map ofByte = ((all ++ s).drop (64 * (all.length / 64))).map ofByte := by
        rw [Nat.mul_one, ← List.map_take, List.take_length, ← List.map_append, List.drop_append_of_le_length (by omega)]; rfl
      rw [← e1, ← e2]; exact ha2
    have hlB : H.length ≤ B1.length := by have := ha3.length_le; omega
    clear ha1 ha2 ha3 ha4 hb1 hb2 hb3 hb4 ov2 happ
    generalize hTT : all ++ s = T at *
    generalize hqq : all.length / 64 = q at *
    refine LoopP.ruleG (α := AVal × Nat) (fun a => [a.1])
      (fun a B => q ≤ a.2 ∧ 64 * a.2 ≤ T.length ∧ H.length ≤ B.length ∧ (∀ k, k < H.length → k ≠ i → B[k]? = H[k]?) ∧ B[i]? = some (.cells v .exact ((eat a.2 first T).map U ++ [rv, .int .i64 T.length])) ∧
        slId a.1 ≠ some i ∧ View B a.1 1 (T.length - 64 * a.2) ((T.drop (64 * a.2)).map ofByte)) (fun a => T.length - 64 * a.2) (b1, q) rfl ⟨Nat.le_refl _, by simp only; omega, hlB, keep0, hB1i, hid1, hv1⟩ ?_
    rintro ⟨b, j⟩ B Kn ⟨hj1, hj2, hlB, keep, hBi, hid, hv⟩ hn
    simp only at hj1 hj2 hBi hid hv
    unfold sha_Hasher_Add.L5 sha_Hasher_Add.L5.b
    have he := eat_len j first T rfl
    simp (disch := first | omega | (simp only [eight_len he] <;> omega) | fail) only [List.getD_cons_zero, ev, evH, x_loadN, x_ldN, hBi, lenSl_view hv, Nat.zero_add, eight_take he]
    refine isB_d (fun h1 => ?_) (fun h1 => ?_)
    · rw [cond_true]
      obtain ⟨c, hc1, hc2, hc3, hc4⟩ := slice_full (h := some (.int .i64 64)) (m := some (.int .i64 64)) (hi := 64) hv (fun d => rfl) (fun d => rfl) rfl (by omega) (.inl (by omega))
      have hbs : aBytes2Str B c = some (.str ((T.drop (64 * j)).take 64)) := bytes_str (by rw [List.map_take]; exact hc2)
      rw [hc1, vb_some, hbs, vb_some]
      refine cb_i _ _ ⟨_, _, rfl, he, by simp; omega, rfl, rfl⟩ ?_
      have hwl := work_len (eat j first T) ((T.drop (64 * j)).take 64)
      simp (disch := first | omega | (simp only [evS]; done) | (simp only [len_map, eight_len he, hwl] <;> omega) | fail) only [ev, evH, x_storeN, x_stN, hBi, eight_splice he hwl]
      have hv2 := hv.set hid (.cells v .exact ((work (eat j first T) ((T.drop (64 * j)).take 64)).map U ++ [rv, .int .i64 T.length]))
      obtain ⟨d, hd1, hd2, hd3⟩ := slice_view (l := some (.int .i64 64)) (h := none) (lo := 64) (hi := T.length - 64 * j) hv2 rfl rfl (by omega) (Nat.le_refl _)
      rw [hd1, vb_some]
      refine hn (d, j + 1) _ ⟨by simp only; omega, by simp only; omega, by simp; omega, fun k hk hne => ?_, ?_, by simp only; rw [hd3]; exact hid, ?_⟩ (by simp only; omega)
      · rw [List.getElem?_set_ne (Ne.symm hne)]; exact keep k hk hne
      · rw [List.getElem?_set_self (lt_of_some hBi), eat_succ]
      · have e1 : T.length - 64 * j - 64 = T.length - 64 * (j + 1) := by omega
        have e2 : List.take ((T.length - 64 * j - 64) * 1) (List.drop (64 * 1) ((T.drop (64 * j)).map ofByte)) = (T.drop (64 * (j + 1))).map ofByte := by
          rw [← List.map_drop, List.drop_drop, ← List.map_take]
          rw [show 64 * j + 64 * 1 = 64 * (j + 1) by omega, List.take_of_length_le (by simp; omega)]
        rw [e2, e1] at hd2
        exact hd2
    · have hj : j = T.length / 64 := by omega
      subst hj
      rw [cond_false]
      have hrest : T.drop (64 * (T.length / 64)) = rest T := rfl
      have hrlen : (rest T).length = T.length - 64 * (T.length / 64) := by simp [rest]
      rw [hrest, ← hrlen] at hv
      have hplain : ∀ x ∈ (eat (T.length / 64) first T).map U ++ [.nils, .int .i64 T.length], x.plain = true := by
        intro x hx
        simp only [List.mem_append] at hx
        rcases hx with hx | hx
        · exact map_plain U_plain _ x hx
        · simp only [List.mem_cons, List.not_mem_nil, or_false] at hx
          rcases hx with rfl | rfl <;> rfl
      unfold addH
      refine append_nils hv (by simp only [room]; omega) (by simp only [room]; omega) (fun h0 => ?_) (fun h0 => ?_)
      · have hz : rest T = [] := List.eq_nil_of_length_eq_zero h0
        rw [if_pos hz]
        simp (disch := first | omega | (simp only [evS]; done) | (simp only [eight_len he] <;> omega) | fail) only [ev, evH, hBi, Nat.zero_add, eight_set8 he]
        refine fin_ret (rvs_v (rvs_nil _)) ?_
        refine Weak.chg hi (List.getElem?_set_self (lt_of_some hBi)) ⟨_, rfl, RenL.plain hplain⟩ (fun k hk hne => by rw [List.getElem?_set_ne (Ne.symm hne)]; exact keep k hk hne) ?_
        simp only [tup1, Ren]; exact ⟨hi, rfl⟩
      · have hz : rest T ≠ [] := List.length_pos_iff.1 h0
        have hrv : addRv H T = .slice ⟨H.length, 0, 0⟩ (rest T).length (.op 1) := if_neg hz
        rw [if_neg hz, hrv]
        have hBi2 : (B ++ [.cells 0 .opn ((rest T).map ofByte)])[i]? = some (.cells v .exact ((eat (T.length / 64) first T).map U ++ [rv, .int .i64 T.length])) := by
          rw [List.getElem?_append_left (lt_of_some hBi)]; exact hBi
        simp (disch := first | omega | (simp only [evS]; done) | (simp only [eight_len he] <;> omega) | fail) only [ev, evH, hBi2, Nat.zero_add, eight_set8 he]
        refine fin_ret (rvs_v (rvs_nil _)) ?_
        refine Weak.chgNew (q := B.length) (w := 0) hi (List.getElem?_set_self (lt_of_some hBi2)) hlB ?_ (map_plain (fun _ => rfl) _) ⟨_, rfl, ?_⟩ (fun k hk hne => ?_) ?_
        · rw [List.getElem?_set_ne (by have := lt_of_some hBi; omega)]; simp
        · refine RenL.append (RenL.plain (map_plain U_plain _)) (renL_cons ?_ (renL_cons (Ren.plain rfl) renL_nil))
          simp [Ren]
        · rw [List.getElem?_set_ne (Ne.symm hne), List.getElem?_append_left (by omega)]; exact keep k hk hne
        · have : i ≠ H.length := by omega
          simp only [tup1, Ren, this, if_false]; exact ⟨by omega, rfl⟩
end Go.Sh

/- The law of a sum's digits. -/
namespace Go.Sh
open Go Go.Abs

def abcHex : List UInt8 := [98, 97, 55, 56, 49, 54, 98, 102, 56, 102, 48, 49, 99, 102, 101, 97, 52, 49, 52, 49, 52, 48, 100, 101, 53, 100, 97, 101, 50, 50, 50, 51, 98, 48, 48, 51, 54, 49, 97, 51, 57, 54, 49, 55, 55, 97, 57, 99, 98, 52, 49, 48, 102, 102, 54, 49, 102, 50, 48, 48, 49, 53, 97, 100]
theorem abc_sum : hex (sum [97, 98, 99]) = abcHex := by decide +kernel

theorem addH_pre {K H : AHeap} {i v : Nat} {all : List UInt8} (h : K <+: H) (hi : K.length ≤ i) : K <+: addH H i v all := by
  unfold addH
  split
  · exact pre_set h hi _
  · exact pre_set (pre_push h _) hi _

theorem cellaretlaw03_awake.ok (args : List AVal) (H : AHeap) (r : AVal) (H' : AHeap) (h : S_cellaretlaw03_awake args H r H') : args = [] ∧ cellaretlaw03_awake.w H fun r1 H1 => Weak H r1 H1 r H' := by
  obtain ⟨rfl, rfl, rfl⟩ := h
  refine ⟨rfl, ?_⟩
  unfold cellaretlaw03_awake.w
  have hl := sum_len [97, 98, 99]
  refine cb_i _ _ ⟨_, rfl, by simp, rfl, rfl⟩ ?_
  refine cb_i _ _ ⟨_, rfl, hl, rfl, rfl⟩ ?_
  rw [abc_sum]
  have e : aBin .eql (.str abcHex) (.str abcHex) = some (.bool true) := by rw [eqls]; simp
  refine vb_i e ?_
  rw [isB_true, cond_true]
  refine cb_i _ _ ⟨rfl, rfl, rfl⟩ ?_
  have h1 := HRep.new H'
  refine cb_i _ _ (.inr ⟨_, _, [97], [], _, rfl, h1, by simp, rfl, rfl⟩) ?_
  have h2 := HRep.add (v := 0) (all := [] ++ [97]) (lt_of_some h1.cell) (by simp)
  refine cb_i _ _ (.inr ⟨_, _, [98, 99], _, _, rfl, h2, by simp, rfl, rfl⟩) ?_
  have h3 := HRep.add (v := 0) (all := ([] ++ [97]) ++ [98, 99]) (lt_of_some h2.cell) (by simp)
  refine cb_i _ _ (.inr ⟨_, _, _, _, rfl, h3, rfl, rfl⟩) ?_
  refine cb_i _ _ ⟨_, rfl, by simp, rfl, rfl⟩ ?_
  refine vb_i (e_eqBytes (sum_len _) (sum_len _)) ?_
  rw [e_pickT, vb_some]
  refine fin_ret (rvs_v (rvs_nil _)) ?_
  have ee : decide (sum ([] ++ [97] ++ [98, 99]) = sum [97, 98, 99]) = true := decide_eq_true rfl
  rw [ee]
  exact Weak.plain rfl (addH_pre (addH_pre (pre_app _ _) (Nat.le_refl _)) (Nat.le_refl _))

theorem dig_val (n : Nat) (h : n < 16) : ((97 ≤ ((dig n).toNat : Int) ∧ ((dig n).toNat : Int) ≤ 102) ∧ ((dig n).toNat : Int) - 39 - 48 = n) ∨ (¬ (97 ≤ ((dig n).toNat : Int)) ∧ ((dig n).toNat : Int) - 48 = n) := by
  have : ∀ n : Fin 16, ((97 ≤ ((dig n.val).toNat : Int) ∧ ((dig n.val).toNat : Int) ≤ 102) ∧ ((dig n.val).toNat : Int) - 39 - 48 = n.val) ∨ (¬ (97 ≤ ((dig n.val).toNat : Int)) ∧ ((dig n.val).toNat : Int) - 48 = n.val) := by decide +kernel
  exact this ⟨n, h⟩

theorem hex_get (d : List UInt8) (i : Nat) (h : i < d.length) : (hex d).getD (2 * i) 0 = dig ((d.getD i 0).toNat / 16) ∧ (hex d).getD (2 * i + 1) 0 = dig ((d.getD i 0).toNat % 16) := by
  induction d generalizing i with
  | nil => simp at h
  | cons b d ih =>
    have e : hex (b :: d) = dig (b.toNat / 16) :: dig (b.toNat % 16) :: hex d := rfl
    cases i with
    | zero => rw [e]; exact ⟨rfl, rfl⟩
    | succ i =>
      obtain ⟨h1, h2⟩ := ih i (by simpa using h)
      rw [e, show 2 * (i + 1) = 2 * i + 1 + 1 by omega, show 2 * i + 1 + 1 + 1 = (2 * i + 1) + 1 + 1 by omega]
      simp only [List.getD_cons_succ]
      exact ⟨h1, h2⟩

theorem cellaretlaw03_ShaHex.ok (args : List AVal) (H : AHeap) (r : AVal) (H' : AHeap) (h : S_cellaretlaw03_ShaHex args H r H') : ∃ x0, args = [x0] ∧ cellaretlaw03_ShaHex.w x0 H fun r1 H1 => Weak H r1 H1 r H' := by
  obtain ⟨d, rfl, hd, rfl, rfl⟩ := h
  refine ⟨_, rfl, ?_⟩
  unfold cellaretlaw03_ShaHex.w
  simp (disch := first | omega | (simp only [len_map, hd]; done) | fail) only [ev, evH, List.getElem?_cons_zero]
  refine cb_i _ _ ⟨_, rfl, hd, rfl, rfl⟩ ?_
  have hhl : (hex d).length = 64 := by rw [hex_len, hd]
  simp (disch := first | omega | fail) only [ev, hhl]
  refine isB_f (by decide) ?_
  rw [cond_false]
  refine LoopP.ruleG (α := Nat) (fun i => [.int .i64 i]) (fun i B => i ≤ 32 ∧ B = H' ++ [.cells 0 .exact (d.map ofByte)]) (fun i => 32 - i) 0 rfl ⟨by omega, rfl⟩ ?_
  rintro i B Kn ⟨hi, rfl⟩ hn
  unfold cellaretlaw03_ShaHex.L5 cellaretlaw03_ShaHex.L5.b
  simp only [List.getD_cons_zero, ev]
  refine isB_d (fun h1 => ?_) (fun h1 => ?_)
  · rw [cond_true]
    have hb := (d.getD i 0).toNat_lt
    obtain ⟨hg1, hg2⟩ := hex_get d i (by omega)
    refine LoopP.ruleG (α := Nat) (fun k => [.int .i64 (if k = 0 then 0 else if k = 1 then (((d.getD i 0).toNat / 16 : Nat) : Int) else (d.getD i 0).toNat), .int .i64 k]) (fun k B => k ≤ 2 ∧ B = H' ++ [.cells 0 .exact (d.map ofByte)]) (fun k => 2 - k) 0 rfl ⟨by omega, rfl⟩ ?_
    rintro k B Kn2 ⟨hk, rfl⟩ hn2
    unfold cellaretlaw03_ShaHex.L9 cellaretlaw03_ShaHex.L9.b
    simp only [List.getD_cons_zero, List.getD_cons_succ, lss64, vb_some]
    refine isB_d (fun h2 => ?_) (fun h2 => ?_)
    · rw [cond_true]
      obtain ⟨q, hq, hqd⟩ : ∃ q, q < 16 ∧ (hex d).getD (2 * (i : Int) + k).toNat 0 = dig q ∧ 16 * (if k = 0 then 0 else if k = 1 then (((d.getD i 0).toNat / 16 : Nat) : Int) else (d.getD i 0).toNat) + q = (if k + 1 = 0 then 0 else if k + 1 = 1 then (((d.getD i 0).toNat / 16 : Nat) : Int) else (d.getD i 0).toNat) := by
        have : k = 0 ∨ k = 1 := by omega
        rcases this with rfl | rfl
        · refine ⟨(d.getD i 0).toNat / 16, by omega, ?_, by simp⟩
          rw [← hg1]; congr 1
        · refine ⟨(d.getD i 0).toNat % 16, by omega, ?_, ?_⟩
          · rw [← hg2]; congr 1
          · simp only [if_true]
            rw [if_neg (by decide), if_neg (by decide), if_neg (by decide)]
            omega
      obtain ⟨hqd, hsum⟩ := hqd
      have hx : ∀ x : Int, x = (if k = 0 then 0 else if k = 1 then (((d.getD i 0).toNat / 16 : Nat) : Int) else (d.getD i 0).toNat) → 0 ≤ x ∧ x ≤ 255 := by
        intro x hx; subst hx; split
        · omega
        · split <;> omega
      generalize hxe : (if k = 0 then (0 : Int) else if k = 1 then (((d.getD i 0).toNat / 16 : Nat) : Int) else (d.getD i 0).toNat) = x at *
      have hx := hx x rfl
      have hdv := dig_val q hq
      have hqb := (dig q).toNat_lt
      simp (disch := first | omega | fail) only [vb_some, mul64, add64, e_idxStr, hqd, int_of_byte]
      refine JoinP.mk (fun e vs B => B = H' ++ [.cells 0 .exact (d.map ofByte)] ∧ e = .normal ∧ vs = [.int .i64 ((q : Int) + 48)]) ?_ ?_
      · simp only [geq64, vb_some]
        refine isB_d (fun h3 => ?_) (fun h3 => ?_)
        · rw [cond_true]
          simp only [leq64, vb_some, e_pickT]
          refine isB_d (fun h4 => ?_) (fun h4 => ?_)
          · rw [cond_true]
            simp (disch := first | omega | fail) only [sub64, vb_some]
            exact ⟨by trivial, by trivial, by rw [show ((dig q).toNat : Int) - 39 = q + 48 by omega]⟩
          · exfalso; omega
        · rw [cond_false]
          simp only [e_pickF, vb_some, isB_false, cond_false]
          exact ⟨by trivial, by trivial, by rw [show ((dig q).toNat : Int) = q + 48 by omega]⟩
      · rintro e vs B ⟨rfl, rfl, rfl⟩
        rw [onE_same]
        simp only [List.getD_cons_zero]
        refine JoinP.mk (fun e vs B => B = H' ++ [.cells 0 .exact (d.map ofByte)] ∧ e = .normal) ?_ ?_
        · simp only [lss64, gtr64, vb_some]
          refine isB_f (by omega) ?_
          rw [cond_false, e_pickF, vb_some]
          refine isB_f (by omega) ?_
          exact ⟨by trivial, by trivial⟩
        · rintro e vs B ⟨rfl, rfl⟩
          rw [onE_same]
          simp (disch := first | omega | fail) only [ev]
          have := hn2 (k + 1) _ ⟨by omega, rfl⟩ (by omega)
          rw [show 16 * x + ((q : Int) + 48) - 48 = 16 * x + q by omega, hsum]
          exact this
    · have : k = 2 := by omega
      subst this
      simp (disch := first | omega | (simp only [len_map, hd] <;> omega) | fail) only [ev, evH, List.getElem?_cons_zero, List.getD_cons_zero, List.getD_cons_succ, getD_map (0 : UInt8), Nat.zero_add, Nat.mul_one, Int.toNat_natCast]
      refine isB_f (by simp) ?_
      exact hn (i + 1) _ ⟨by omega, rfl⟩ (by omega)
  · simp only [ev]
    refine cb_i _ _ ⟨rfl, rfl, rfl⟩ ?_
    simp only [ev]
    refine cb_i _ _ (.inl ⟨_, rfl, rfl, rfl⟩) ?_
    simp only [ev]
    refine cb_i _ _ (.inl ⟨rfl, rfl, rfl⟩) ?_
    refine cb_i _ _ ⟨_, rfl, by simp, rfl, rfl⟩ ?_
    refine vb_i (e_eqBytes (sum_len _) (sum_len _)) ?_
    refine fin_ret (rvs_v (rvs_nil _)) ?_
    rw [decide_eq_true rfl]
    exact Weak.plain rfl (pre_app _ _)
end Go.Sh

/- The law of a text that is added in parts. -/
namespace Go.Sh
open Go Go.Abs

def S_cellaretlaw03_ShaParts : Abs.Spec := fun args H r H' => ∃ (x : AVal) (l : List (List UInt8)), args = [x] ∧ View H x 1 l.length (l.map .str) ∧ r = .bool true ∧ H' = H

theorem cellaretlaw03_ShaParts.ok (args : List AVal) (H : AHeap) (r : AVal) (H' : AHeap) (h : S_cellaretlaw03_ShaParts args H r H') : ∃ x0, args = [x0] ∧ cellaretlaw03_ShaParts.w x0 H fun r1 H1 => Weak H r1 H1 r H' := by
  obtain ⟨x, l, rfl, hv, rfl, rfl⟩ := h
  refine ⟨_, rfl, ?_⟩
  unfold cellaretlaw03_ShaParts.w
  refine cb_i _ _ ⟨rfl, rfl, rfl⟩ ?_
  refine LoopP.ruleG (α := Nat × List UInt8) (fun a => [.str a.2, .int .i64 a.1])
    (fun a B => a.1 ≤ 20 ∧ a.2.length ≤ 500 * a.1 ∧ H' <+: B ∧ ∃ rv, HRep B H'.length 0 a.2 rv) (fun a => 20 - a.1) (0, []) rfl ⟨by decide, by decide, pre_app _ _, _, HRep.new H'⟩ ?_
  rintro ⟨i, all⟩ B Kn ⟨hi, ha, hp, rv, hr⟩ hn
  simp only at hi ha hr
  unfold cellaretlaw03_ShaParts.L4 cellaretlaw03_ShaParts.L4.b
  simp only [List.getD_cons_zero, List.getD_cons_succ]
  refine JoinP.mk (fun e vs B' => B' = B ∧ ((e = .normal ∧ i < l.length ∧ i < 20) ∨ e = .exit 0)) ?_ ?_
  · simp only [lenSl_view hv, vb_some, lss64, e_pickT, e_pickF]
    refine isB_d (fun h1 => ?_) (fun h1 => ?_)
    · rw [cond_true]
      refine isB_d (fun h2 => ?_) (fun h2 => ?_)
      · rw [cond_true]; exact ⟨by trivial, .inl ⟨by trivial, by omega, by omega⟩⟩
      · rw [cond_false]; exact ⟨by trivial, .inr (by trivial)⟩
    · rw [cond_false]
      rw [isB_false, cond_false]
      exact ⟨by trivial, .inr (by trivial)⟩
  · rintro e vs B' ⟨rfl, ⟨rfl, h1, h2⟩ | rfl⟩
    · simp only [onE_same, onE_ne]
      obtain ⟨q, hq, hl⟩ := hv.at1 (k := (i : Int)) (kd := .i64) (by omega) (by omega) hp
      rw [Int.toNat_natCast, getD_str' h1] at hl
      simp only [hq, hl, vb_some, e_lenSt, gtr64]
      have step : ∀ (B2 : AHeap) (all2 : List UInt8) (rv2 : AVal), all2.length ≤ 500 * (i + 1) → H' <+: B2 → HRep B2 H'.length 0 all2 rv2 → Kn [.str all2, .int .i64 (((i + 1 : Nat) : Int))] B2 := fun B2 all2 rv2 k1 k2 k3 =>
        hn (i + 1, all2) B2 ⟨by simp only; omega, by simpa using k1, k2, rv2, k3⟩ (by simp only; omega)
      refine isB_d (fun h3 => ?_) (fun h3 => ?_)
      · rw [cond_true]
        simp (disch := first | omega | fail) only [add64, vb_some]
        exact step _ _ _ (by omega) hp hr
      · rw [cond_false]
        have hx : (l.getD i []).length ≤ 500 := by omega
        have hal : (all ++ l.getD i []).length ≤ 500 * (i + 1) := by rw [List.length_append]; omega
        simp (disch := first | omega | fail) only [adds, vb_some]
        refine cb_i _ _ (.inr ⟨_, _, _, _, _, rfl, hr, by omega, rfl, rfl⟩) ?_
        have hr2 := HRep.add (v := 0) (all := all ++ l.getD i []) (lt_of_some hr.cell) (by omega)
        have hp2 : H' <+: addH B' H'.length 0 (all ++ l.getD i []) := addH_pre hp (Nat.le_refl _)
        simp only [e_samePtr hr2.cell, vb_some, Bool.not_true]
        rw [isB_false, cond_false]
        refine cb_i _ _ (.inr ⟨_, _, _, _, rfl, hr2, rfl, rfl⟩) ?_
        refine cb_i _ _ ⟨_, rfl, by omega, rfl, rfl⟩ ?_
        refine vb_i (e_neBytes (sum_len _) (sum_len _)) ?_
        simp only [e_pickF, vb_some]
        refine isB_f (by simp) ?_
        rw [cond_false]
        simp (disch := first | omega | fail) only [add64, vb_some]
        exact step _ _ _ hal hp2 hr2
    · simp only [onE_same]
      refine cb_i _ _ ⟨rfl, rfl, rfl⟩ ?_
      simp only [ev]
      refine cb_i _ _ (.inr ⟨_, _, _, _, rfl, hr, rfl, rfl⟩) ?_
      refine cb_i _ _ ⟨_, rfl, by omega, rfl, rfl⟩ ?_
      refine vb_i (e_eqBytes (sum_len _) (sum_len _)) ?_
      refine fin_ret (rvs_v (rvs_nil _)) ?_
      rw [decide_eq_true rfl]
      exact Weak.plain rfl hp
end Go.Sh

/- Functions that leave what was there as it was. -/
namespace Go.Sh
open Go Go.Abs
theorem pre_of_eq {H H' : AHeap} (h : H' = H) : H <+: H' := by rw [h]; exact List.prefix_refl _

theorem sha_Words.quiet {args : List AVal} {H : AHeap} {r : AVal} {H' : AHeap} (h : S_sha_Words args H r H') : H <+: H' := by
  unfold S_sha_Words at h; grind [pre_app, pre_of_eq]
theorem sha_constants.quiet {args : List AVal} {H : AHeap} {r : AVal} {H' : AHeap} (h : S_sha_constants args H r H') : H <+: H' := by
  unfold S_sha_constants at h; grind [pre_app, pre_of_eq]
theorem sha_work.quiet {args : List AVal} {H : AHeap} {r : AVal} {H' : AHeap} (h : S_sha_work args H r H') : H <+: H' := by
  unfold S_sha_work at h; grind [pre_app, pre_of_eq]
theorem sha_tail.quiet {args : List AVal} {H : AHeap} {r : AVal} {H' : AHeap} (h : S_sha_tail args H r H') : H <+: H' := by
  unfold S_sha_tail at h; grind [pre_app, pre_of_eq]
theorem sha_digest.quiet {args : List AVal} {H : AHeap} {r : AVal} {H' : AHeap} (h : S_sha_digest args H r H') : H <+: H' := by
  unfold S_sha_digest at h; grind [pre_app, pre_of_eq]
theorem sha_Sum.quiet {args : List AVal} {H : AHeap} {r : AVal} {H' : AHeap} (h : S_sha_Sum args H r H') : H <+: H' := by
  unfold S_sha_Sum at h; grind [pre_app, pre_of_eq]
theorem sha_Hex.quiet {args : List AVal} {H : AHeap} {r : AVal} {H' : AHeap} (h : S_sha_Hex args H r H') : H <+: H' := by
  unfold S_sha_Hex at h; grind [pre_app, pre_of_eq]
theorem sha_New.quiet {args : List AVal} {H : AHeap} {r : AVal} {H' : AHeap} (h : S_sha_New args H r H') : H <+: H' := by
  unfold S_sha_New at h; grind [pre_app, pre_of_eq]
theorem sha_Hasher_Digest.quiet {args : List AVal} {H : AHeap} {r : AVal} {H' : AHeap} (h : S_sha_Hasher_Digest args H r H') : H <+: H' := by
  unfold S_sha_Hasher_Digest at h; grind [pre_app, pre_of_eq]
theorem sha_Pad.quiet {args : List AVal} {H : AHeap} {r : AVal} {H' : AHeap} (h : S_sha_Pad args H r H') : H <+: H' := by
  unfold S_sha_Pad at h; grind [pre_app, pre_of_eq]
theorem sha_Work.quiet {args : List AVal} {H : AHeap} {r : AVal} {H' : AHeap} (h : S_sha_Work args H r H') : H <+: H' := by
  unfold S_sha_Work at h; grind [pre_app, pre_of_eq]
theorem sha_Constant.quiet {args : List AVal} {H : AHeap} {r : AVal} {H' : AHeap} (h : S_sha_Constant args H r H') : H <+: H' := by
  unfold S_sha_Constant at h; grind [pre_app, pre_of_eq]
theorem cellaretlaw03_awake.quiet {args : List AVal} {H : AHeap} {r : AVal} {H' : AHeap} (h : S_cellaretlaw03_awake args H r H') : H <+: H' := by
  unfold S_cellaretlaw03_awake at h; grind [pre_app, pre_of_eq]
theorem cellaretlaw03_ShaHex.quiet {args : List AVal} {H : AHeap} {r : AVal} {H' : AHeap} (h : S_cellaretlaw03_ShaHex args H r H') : H <+: H' := by
  unfold S_cellaretlaw03_ShaHex at h; grind [pre_app, pre_of_eq]
theorem cellaretlaw03_ShaParts.quiet {args : List AVal} {H : AHeap} {r : AVal} {H' : AHeap} (h : S_cellaretlaw03_ShaParts args H r H') : H <+: H' := by
  unfold S_cellaretlaw03_ShaParts at h; grind [pre_app, pre_of_eq]
end Go.Sh
