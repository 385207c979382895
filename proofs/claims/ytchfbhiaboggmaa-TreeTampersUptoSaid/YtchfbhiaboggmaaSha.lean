/- One text of these: Sha0, ShaW1, ShaP1, ShaP2, ShaP3, Sha1, ShaW2, ShaP4, ShaP5, ShaP6, ShaP7, ShaP8, ShaP9, ShaP10. -/
import Derived.Test.YtchfbhiaboggmaaAbsE

/- The sum of a text, plainly; and what the functions of the package sha come to. -/
namespace Go.Sh
open Go Go.Abs

abbrev W32 := BitVec 32

def kk : List W32 := [1116352408#32, 1899447441#32, 3049323471#32, 3921009573#32, 961987163#32, 1508970993#32, 2453635748#32, 2870763221#32, 3624381080#32, 310598401#32, 607225278#32, 1426881987#32, 1925078388#32, 2162078206#32, 2614888103#32, 3248222580#32, 3835390401#32, 4022224774#32, 264347078#32, 604807628#32, 770255983#32, 1249150122#32, 1555081692#32, 1996064986#32, 2554220882#32, 2821834349#32, 2952996808#32, 3210313671#32, 3336571891#32, 3584528711#32, 113926993#32, 338241895#32, 666307205#32, 773529912#32, 1294757372#32, 1396182291#32, 1695183700#32, 1986661051#32, 2177026350#32, 2456956037#32, 2730485921#32, 2820302411#32, 3259730800#32, 3345764771#32, 3516065817#32, 3600352804#32, 4094571909#32, 275423344#32, 430227734#32, 506948616#32, 659060556#32, 883997877#32, 958139571#32, 1322822218#32, 1537002063#32, 1747873779#32, 1955562222#32, 2024104815#32, 2227730452#32, 2361852424#32, 2428436474#32, 2756734187#32, 3204031479#32, 3329325298#32]
def first : List W32 := [1779033703#32, 3144134277#32, 1013904242#32, 2773480762#32, 1359893119#32, 2600822924#32, 528734635#32, 1541459225#32]

/-- The word at a place of a text. -/
def word (s : List UInt8) (i : Nat) : W32 :=
  BitVec.ofNat 32 (s.getD (4 * i) 0).toNat <<< 24 ||| BitVec.ofNat 32 (s.getD (4 * i + 1) 0).toNat <<< 16 ||| BitVec.ofNat 32 (s.getD (4 * i + 2) 0).toNat <<< 8 ||| BitVec.ofNat 32 (s.getD (4 * i + 3) 0).toNat

def s0 (x : W32) : W32 := (x >>> 7 ||| x <<< 25) ^^^ (x >>> 18 ||| x <<< 14) ^^^ x >>> 3
def s1 (y : W32) : W32 := (y >>> 17 ||| y <<< 15) ^^^ (y >>> 19 ||| y <<< 13) ^^^ y >>> 10
def S0 (a : W32) : W32 := (a >>> 2 ||| a <<< 30) ^^^ (a >>> 13 ||| a <<< 19) ^^^ (a >>> 22 ||| a <<< 10)
def S1 (e : W32) : W32 := (e >>> 6 ||| e <<< 26) ^^^ (e >>> 11 ||| e <<< 21) ^^^ (e >>> 25 ||| e <<< 7)
def chs (e f g : W32) : W32 := (e &&& f) ^^^ (~~~e &&& g)
def maj (a b c : W32) : W32 := (a &&& b) ^^^ (a &&& c) ^^^ (b &&& c)

/-- The words of a block: so many of them. -/
def wl (s : List UInt8) : Nat → List W32
  | 0 => []
  | n + 1 =>
    let l := wl s n
    l ++ [if n < 16 then word s n else l.getD (n - 16) 0 + s0 (l.getD (n - 15) 0) + l.getD (n - 7) 0 + s1 (l.getD (n - 2) 0)]

structure St where
  a : W32
  b : W32
  c : W32
  d : W32
  e : W32
  f : W32
  g : W32
  h : W32

def St.go (s : St) (k w : W32) : St :=
  let x := s.h + S1 s.e + chs s.e s.f s.g + k + w
  let y := S0 s.a + maj s.a s.b s.c
  ⟨x + y, s.a, s.b, s.c, s.d + x, s.e, s.f, s.g⟩

def rounds (l : List W32) (s : St) : Nat → St
  | 0 => s
  | n + 1 => (rounds l s n).go (kk.getD n 0) (l.getD n 0)

def St.of (h : List W32) : St := ⟨h.getD 0 0, h.getD 1 0, h.getD 2 0, h.getD 3 0, h.getD 4 0, h.getD 5 0, h.getD 6 0, h.getD 7 0⟩

/-- What eight words become by a block. -/
def work (h : List W32) (s : List UInt8) : List W32 :=
  let r := rounds (wl s 64) (St.of h) 64
  [h.getD 0 0 + r.a, h.getD 1 0 + r.b, h.getD 2 0 + r.c, h.getD 3 0 + r.d, h.getD 4 0 + r.e, h.getD 5 0 + r.f, h.getD 6 0 + r.g, h.getD 7 0 + r.h]

def zeros (n : Nat) : Nat := (119 - n % 64) % 64
def be64 (n : Nat) : List UInt8 := [56, 48, 40, 32, 24, 16, 8, 0].map fun i => UInt8.ofNat (n / 2 ^ i)
/-- What stands behind a text of so many bytes. -/
def tailB (n : Nat) : List UInt8 := 128 :: List.replicate (zeros n) 0 ++ be64 (n * 8)

/-- So many blocks eaten. -/
def eat : Nat → List W32 → List UInt8 → List W32
  | 0, h, _ => h
  | k + 1, h, s => eat k (work h (s.take 64)) (s.drop 64)

def bytes4 (w : W32) : List UInt8 := [UInt8.ofNat (w >>> 24).toNat, UInt8.ofNat (w >>> 16).toNat, UInt8.ofNat (w >>> 8).toNat, UInt8.ofNat w.toNat]
def digest (h : List W32) : List UInt8 := (h.map bytes4).flatten

def pad (s : List UInt8) : List UInt8 := s ++ tailB s.length
def sum (s : List UInt8) : List UInt8 := digest (eat ((pad s).length / 64) first (pad s))

theorem work_len (h : List W32) (s : List UInt8) : (work h s).length = 8 := rfl
theorem eat_len (k : Nat) : ∀ (h : List W32) (s : List UInt8), h.length = 8 → (eat k h s).length = 8 := by
  induction k with
  | zero => intro h s hh; exact hh
  | succ k ih => intro h s _; exact ih _ _ (work_len _ _)
theorem digest_len {h : List W32} (hh : h.length = 8) : (digest h).length = 32 := by
  match h, hh with
  | [_, _, _, _, _, _, _, _], _ => rfl
theorem sum_len (s : List UInt8) : (sum s).length = 32 := digest_len (eat_len _ _ _ rfl)
theorem tailB_len (n : Nat) : (tailB n).length = 9 + zeros n := by simp [tailB, be64]; omega
theorem pad_mod (s : List UInt8) : (pad s).length % 64 = 0 := by
  simp only [pad, List.length_append, tailB_len, zeros]; omega

theorem eat_add (a b : Nat) : ∀ (h : List W32) (s : List UInt8), eat (a + b) h s = eat b (eat a h s) (s.drop (64 * a)) := by
  induction a with
  | zero => intro h s; simp [eat]
  | succ a ih =>
    intro h s
    rw [show a + 1 + b = (a + b) + 1 by omega]
    simp only [eat]
    rw [ih, List.drop_drop]
    congr 2
    omega
theorem eat_app (a : Nat) : ∀ (h : List W32) (s t : List UInt8), 64 * a ≤ s.length → eat a h (s ++ t) = eat a h s := by
  induction a with
  | zero => intro h s t _; rfl
  | succ a ih =>
    intro h s t hl
    simp only [eat]
    rw [List.take_append_of_le_length (by omega), List.drop_append_of_le_length (by omega), ih _ _ _ (by simp; omega)]

def S_sha_Words : Abs.Spec := fun args H r H' => args = [] ∧ r = .agg (first.map U) ∧ H' = H
def S_sha_constants : Abs.Spec := fun args H r H' => args = [] ∧ r = .agg (kk.map U) ∧ H' = H
def S_sha_work : Abs.Spec := fun args H r H' => ∃ h s, args = [.agg (h.map U), .str s] ∧ h.length = 8 ∧ s.length = 64 ∧ r = .agg ((work h s).map U) ∧ H' = H
def S_sha_tail : Abs.Spec := fun args H r H' => ∃ n : Nat, args = [.int .i64 n] ∧ n ≤ 1099511627776 ∧ r = .str (tailB n) ∧ H' = H
def S_sha_digest : Abs.Spec := fun args H r H' => ∃ h, args = [.agg (h.map U)] ∧ h.length = 8 ∧ r = .agg ((digest h).map ofByte) ∧ H' = H
def S_sha_Sum : Abs.Spec := fun args H r H' => ∃ s, args = [.str s] ∧ s.length ≤ 1099511627776 ∧ r = .agg ((sum s).map ofByte) ∧ H' = H

end Go.Sh

/- What Go functions come to over abstract values, printed by a program (wtext.py). -/
namespace Go.Sh
open Go Go.Abs

def sha_Words.w (H : AHeap) (K : AVal → AHeap → Prop) : Prop :=
 hb (aAlloc H (List.replicate 8 (.int .u32 0))) fun v1 H2 =>
 vb (aBuild (List.replicate 8 (.int .u32 0)) (fun k => some (k * 1, 1)) [(0, .int .u32 1779033703), (1, .int .u32 3144134277), (2, .int .u32 1013904242), (3, .int .u32 2773480762), (4, .int .u32 1359893119), (5, .int .u32 2600822924), (6, .int .u32 528734635), (7, .int .u32 1541459225)]) fun v3 =>
 sb (aStore H2 8 v1 v3) fun H4 =>
 fin .ret [.c true 8 (v1)] H4 K

def sha_constants.w (H : AHeap) (K : AVal → AHeap → Prop) : Prop :=
 hb (aAlloc H (List.replicate 64 (.int .u32 0))) fun v1 H2 =>
 vb (aBuild (List.replicate 64 (.int .u32 0)) (fun k => some (k * 1, 1)) [(0, .int .u32 1116352408), (1, .int .u32 1899447441), (2, .int .u32 3049323471), (3, .int .u32 3921009573), (4, .int .u32 961987163), (5, .int .u32 1508970993), (6, .int .u32 2453635748), (7, .int .u32 2870763221), (8, .int .u32 3624381080), (9, .int .u32 310598401), (10, .int .u32 607225278), (11, .int .u32 1426881987), (12, .int .u32 1925078388), (13, .int .u32 2162078206), (14, .int .u32 2614888103), (15, .int .u32 3248222580), (16, .int .u32 3835390401), (17, .int .u32 4022224774), (18, .int .u32 264347078), (19, .int .u32 604807628), (20, .int .u32 770255983), (21, .int .u32 1249150122), (22, .int .u32 1555081692), (23, .int .u32 1996064986), (24, .int .u32 2554220882), (25, .int .u32 2821834349), (26, .int .u32 2952996808), (27, .int .u32 3210313671), (28, .int .u32 3336571891), (29, .int .u32 3584528711), (30, .int .u32 113926993), (31, .int .u32 338241895), (32, .int .u32 666307205), (33, .int .u32 773529912), (34, .int .u32 1294757372), (35, .int .u32 1396182291), (36, .int .u32 1695183700), (37, .int .u32 1986661051), (38, .int .u32 2177026350), (39, .int .u32 2456956037), (40, .int .u32 2730485921), (41, .int .u32 2820302411), (42, .int .u32 3259730800), (43, .int .u32 3345764771), (44, .int .u32 3516065817), (45, .int .u32 3600352804), (46, .int .u32 4094571909), (47, .int .u32 275423344), (48, .int .u32 430227734), (49, .int .u32 506948616), (50, .int .u32 659060556), (51, .int .u32 883997877), (52, .int .u32 958139571), (53, .int .u32 1322822218), (54, .int .u32 1537002063), (55, .int .u32 1747873779), (56, .int .u32 1955562222), (57, .int .u32 2024104815), (58, .int .u32 2227730452), (59, .int .u32 2361852424), (60, .int .u32 2428436474), (61, .int .u32 2756734187), (62, .int .u32 3204031479), (63, .int .u32 3329325298)]) fun v3 =>
 sb (aStore H2 64 v1 v3) fun H4 =>
 fin .ret [.c true 64 (v1)] H4 K

def sha_work.L3.b (x1 : AVal) (v5 : AVal) (x26_3 : AVal) (H7 : AHeap) (Kn8 : List AVal → AHeap → Prop) (Ke9 : AExit → List AVal → AHeap → Prop) : Prop :=
 vb (aBin .lss x26_3 (.int .i64 16)) fun v10 =>
 isB v10 fun b11 => cond b11
 (vb (aBin .mul (.int .i64 4) x26_3) fun v12 =>
 vb (aIndexStr x1 v12) fun v13 =>
 vb (aInt2 .u32 v13) fun v14 =>
 vb (aBin .shl v14 (.int .u64 24)) fun v15 =>
 vb (aBin .mul (.int .i64 4) x26_3) fun v16 =>
 vb (aBin .add v16 (.int .i64 1)) fun v17 =>
 vb (aIndexStr x1 v17) fun v18 =>
 vb (aInt2 .u32 v18) fun v19 =>
 vb (aBin .shl v19 (.int .u64 16)) fun v20 =>
 vb (aBin .or v15 v20) fun v21 =>
 vb (aBin .mul (.int .i64 4) x26_3) fun v22 =>
 vb (aBin .add v22 (.int .i64 2)) fun v23 =>
 vb (aIndexStr x1 v23) fun v24 =>
 vb (aInt2 .u32 v24) fun v25 =>
 vb (aBin .shl v25 (.int .u64 8)) fun v26 =>
 vb (aBin .or v21 v26) fun v27 =>
 vb (aBin .mul (.int .i64 4) x26_3) fun v28 =>
 vb (aBin .add v28 (.int .i64 3)) fun v29 =>
 vb (aIndexStr x1 v29) fun v30 =>
 vb (aInt2 .u32 v30) fun v31 =>
 vb (aBin .or v27 v31) fun v32 =>
 vb (aIndexAddrArr 64 1 v5 x26_3) fun v33 =>
 sb (aStore H7 1 v33 v32) fun H34 =>
 vb (aBin .add x26_3 (.int .i64 1)) fun v35 =>
 Kn8 [v35] H34)
 (Ke9 (.exit 0) [] H7)

def sha_work.L3 (x1 : AVal) (v5 : AVal) : Body := fun vs H Kn Ke => sha_work.L3.b x1 v5 (vs.getD 0 .undef) H Kn Ke

def sha_work.L8.b (v5 : AVal) (x7_8 : AVal) (H39 : AHeap) (Kn40 : List AVal → AHeap → Prop) (Ke41 : AExit → List AVal → AHeap → Prop) : Prop :=
 vb (aBin .lss x7_8 (.int .i64 64)) fun v42 =>
 isB v42 fun b43 => cond b43
 (vb (aBin .sub x7_8 (.int .i64 15)) fun v44 =>
 vb (aIndexAddrArr 64 1 v5 v44) fun v45 =>
 vb (aLoad H39 false 1 v45) fun v46 =>
 vb (aBin .sub x7_8 (.int .i64 2)) fun v47 =>
 vb (aIndexAddrArr 64 1 v5 v47) fun v48 =>
 vb (aLoad H39 false 1 v48) fun v49 =>
 vb (aBin .shr v46 (.int .u64 7)) fun v50 =>
 vb (aBin .shl v46 (.int .u64 25)) fun v51 =>
 vb (aBin .or v50 v51) fun v52 =>
 vb (aBin .shr v46 (.int .u64 18)) fun v53 =>
 vb (aBin .shl v46 (.int .u64 14)) fun v54 =>
 vb (aBin .or v53 v54) fun v55 =>
 vb (aBin .xor v52 v55) fun v56 =>
 vb (aBin .shr v46 (.int .u64 3)) fun v57 =>
 vb (aBin .xor v56 v57) fun v58 =>
 vb (aBin .shr v49 (.int .u64 17)) fun v59 =>
 vb (aBin .shl v49 (.int .u64 15)) fun v60 =>
 vb (aBin .or v59 v60) fun v61 =>
 vb (aBin .shr v49 (.int .u64 19)) fun v62 =>
 vb (aBin .shl v49 (.int .u64 13)) fun v63 =>
 vb (aBin .or v62 v63) fun v64 =>
 vb (aBin .xor v61 v64) fun v65 =>
 vb (aBin .shr v49 (.int .u64 10)) fun v66 =>
 vb (aBin .xor v65 v66) fun v67 =>
 vb (aBin .sub x7_8 (.int .i64 16)) fun v68 =>
 vb (aIndexAddrArr 64 1 v5 v68) fun v69 =>
 vb (aLoad H39 false 1 v69) fun v70 =>
 vb (aBin .add v70 v58) fun v71 =>
 vb (aBin .sub x7_8 (.int .i64 7)) fun v72 =>
 vb (aIndexAddrArr 64 1 v5 v72) fun v73 =>
 vb (aLoad H39 false 1 v73) fun v74 =>
 vb (aBin .add v71 v74) fun v75 =>
 vb (aBin .add v75 v67) fun v76 =>
 vb (aIndexAddrArr 64 1 v5 x7_8) fun v77 =>
 sb (aStore H39 1 v77 v76) fun H78 =>
 vb (aBin .add x7_8 (.int .i64 1)) fun v79 =>
 Kn40 [v79] H78)
 (Ke41 (.exit 2) [] H39)

def sha_work.L8 (v5 : AVal) : Body := fun vs H Kn Ke => sha_work.L8.b v5 (vs.getD 0 .undef) H Kn Ke

def sha_work.L17.b (v85 : AVal) (v5 : AVal) (x13_17 : AVal) (x14_17 : AVal) (x15_17 : AVal) (x16_17 : AVal) (x17_17 : AVal) (x18_17 : AVal) (x19_17 : AVal) (x20_17 : AVal) (x133_17 : AVal) (H104 : AHeap) (Kn105 : List AVal → AHeap → Prop) (Ke106 : AExit → List AVal → AHeap → Prop) : Prop :=
 vb (aBin .lss x133_17 (.int .i64 64)) fun v107 =>
 isB v107 fun b108 => cond b108
 (vb (aBin .shr x17_17 (.int .u64 6)) fun v109 =>
 vb (aBin .shl x17_17 (.int .u64 26)) fun v110 =>
 vb (aBin .or v109 v110) fun v111 =>
 vb (aBin .shr x17_17 (.int .u64 11)) fun v112 =>
 vb (aBin .shl x17_17 (.int .u64 21)) fun v113 =>
 vb (aBin .or v112 v113) fun v114 =>
 vb (aBin .xor v111 v114) fun v115 =>
 vb (aBin .shr x17_17 (.int .u64 25)) fun v116 =>
 vb (aBin .shl x17_17 (.int .u64 7)) fun v117 =>
 vb (aBin .or v116 v117) fun v118 =>
 vb (aBin .xor v115 v118) fun v119 =>
 vb (aBin .add x20_17 v119) fun v120 =>
 vb (aBin .and x17_17 x18_17) fun v121 =>
 vb (aUn .xor x17_17) fun v122 =>
 vb (aBin .and v122 x19_17) fun v123 =>
 vb (aBin .xor v121 v123) fun v124 =>
 vb (aBin .add v120 v124) fun v125 =>
 vb (aIndexAddrArr 64 1 v85 x133_17) fun v126 =>
 vb (aLoad H104 false 1 v126) fun v127 =>
 vb (aBin .add v125 v127) fun v128 =>
 vb (aIndexAddrArr 64 1 v5 x133_17) fun v129 =>
 vb (aLoad H104 false 1 v129) fun v130 =>
 vb (aBin .add v128 v130) fun v131 =>
 vb (aBin .shr x13_17 (.int .u64 2)) fun v132 =>
 vb (aBin .shl x13_17 (.int .u64 30)) fun v133 =>
 vb (aBin .or v132 v133) fun v134 =>
 vb (aBin .shr x13_17 (.int .u64 13)) fun v135 =>
 vb (aBin .shl x13_17 (.int .u64 19)) fun v136 =>
 vb (aBin .or v135 v136) fun v137 =>
 vb (aBin .xor v134 v137) fun v138 =>
 vb (aBin .shr x13_17 (.int .u64 22)) fun v139 =>
 vb (aBin .shl x13_17 (.int .u64 10)) fun v140 =>
 vb (aBin .or v139 v140) fun v141 =>
 vb (aBin .xor v138 v141) fun v142 =>
 vb (aBin .and x13_17 x14_17) fun v143 =>
 vb (aBin .and x13_17 x15_17) fun v144 =>
 vb (aBin .xor v143 v144) fun v145 =>
 vb (aBin .and x14_17 x15_17) fun v146 =>
 vb (aBin .xor v145 v146) fun v147 =>
 vb (aBin .add v142 v147) fun v148 =>
 vb (aBin .add x16_17 v131) fun v149 =>
 vb (aBin .add v131 v148) fun v150 =>
 vb (aBin .add x133_17 (.int .i64 1)) fun v151 =>
 Kn105 [v150, x13_17, x14_17, x15_17, v149, x17_17, x18_17, x19_17, v151] H104)
 (Ke106 (.exit 4) [x13_17, x14_17, x15_17, x16_17, x17_17, x18_17, x19_17, x20_17] H104)

def sha_work.L17 (v85 : AVal) (v5 : AVal) : Body := fun vs H Kn Ke => sha_work.L17.b v85 v5 (vs.getD 0 .undef) (vs.getD 1 .undef) (vs.getD 2 .undef) (vs.getD 3 .undef) (vs.getD 4 .undef) (vs.getD 5 .undef) (vs.getD 6 .undef) (vs.getD 7 .undef) (vs.getD 8 .undef) H Kn Ke

def sha_work.w (x0 : AVal) (x1 : AVal) (H : AHeap) (K : AVal → AHeap → Prop) : Prop :=
 hb (aBox H x0) fun v1 H2 =>
 hb (aAlloc H2 (List.replicate 8 (.int .u32 0))) fun v3 H4 =>
 hb (aAlloc H4 (List.replicate 64 (.int .u32 0))) fun v5 H6 =>
 LoopP (sha_work.L3 x1 v5) [.int .i64 0] H6 fun e36 vs37 H38 =>
 onE e36 (.exit 0)
 (LoopP (sha_work.L8 v5) [.int .i64 16] H38 fun e80 vs81 H82 =>
 onE e80 (.exit 2)
 (cb (S_sha_constants [] H82) fun v83 H84 =>
 hb (aAlloc H84 (List.replicate 64 (.int .u32 0))) fun v85 H86 =>
 sb (aStore H86 64 v85 v83) fun H87 =>
 vb (aIndexAddrArr 8 1 v1 (.int .i64 0)) fun v88 =>
 vb (aLoad H87 false 1 v88) fun v89 =>
 vb (aIndexAddrArr 8 1 v1 (.int .i64 1)) fun v90 =>
 vb (aLoad H87 false 1 v90) fun v91 =>
 vb (aIndexAddrArr 8 1 v1 (.int .i64 2)) fun v92 =>
 vb (aLoad H87 false 1 v92) fun v93 =>
 vb (aIndexAddrArr 8 1 v1 (.int .i64 3)) fun v94 =>
 vb (aLoad H87 false 1 v94) fun v95 =>
 vb (aIndexAddrArr 8 1 v1 (.int .i64 4)) fun v96 =>
 vb (aLoad H87 false 1 v96) fun v97 =>
 vb (aIndexAddrArr 8 1 v1 (.int .i64 5)) fun v98 =>
 vb (aLoad H87 false 1 v98) fun v99 =>
 vb (aIndexAddrArr 8 1 v1 (.int .i64 6)) fun v100 =>
 vb (aLoad H87 false 1 v100) fun v101 =>
 vb (aIndexAddrArr 8 1 v1 (.int .i64 7)) fun v102 =>
 vb (aLoad H87 false 1 v102) fun v103 =>
 LoopP (sha_work.L17 v85 v5) [v89, v91, v93, v95, v97, v99, v101, v103, .int .i64 0] H87 fun e152 vs153 H154 =>
 onE e152 (.exit 4)
 (vb (aIndexAddrArr 8 1 v1 (.int .i64 0)) fun v155 =>
 vb (aLoad H154 false 1 v155) fun v156 =>
 vb (aBin .add v156 (vs153.getD 0 .undef)) fun v157 =>
 vb (aIndexAddrArr 8 1 v1 (.int .i64 1)) fun v158 =>
 vb (aLoad H154 false 1 v158) fun v159 =>
 vb (aBin .add v159 (vs153.getD 1 .undef)) fun v160 =>
 vb (aIndexAddrArr 8 1 v1 (.int .i64 2)) fun v161 =>
 vb (aLoad H154 false 1 v161) fun v162 =>
 vb (aBin .add v162 (vs153.getD 2 .undef)) fun v163 =>
 vb (aIndexAddrArr 8 1 v1 (.int .i64 3)) fun v164 =>
 vb (aLoad H154 false 1 v164) fun v165 =>
 vb (aBin .add v165 (vs153.getD 3 .undef)) fun v166 =>
 vb (aIndexAddrArr 8 1 v1 (.int .i64 4)) fun v167 =>
 vb (aLoad H154 false 1 v167) fun v168 =>
 vb (aBin .add v168 (vs153.getD 4 .undef)) fun v169 =>
 vb (aIndexAddrArr 8 1 v1 (.int .i64 5)) fun v170 =>
 vb (aLoad H154 false 1 v170) fun v171 =>
 vb (aBin .add v171 (vs153.getD 5 .undef)) fun v172 =>
 vb (aIndexAddrArr 8 1 v1 (.int .i64 6)) fun v173 =>
 vb (aLoad H154 false 1 v173) fun v174 =>
 vb (aBin .add v174 (vs153.getD 6 .undef)) fun v175 =>
 vb (aIndexAddrArr 8 1 v1 (.int .i64 7)) fun v176 =>
 vb (aLoad H154 false 1 v176) fun v177 =>
 vb (aBin .add v177 (vs153.getD 7 .undef)) fun v178 =>
 vb (aBuild (List.replicate 8 (.int .u32 0)) (fun k => some (k * 1, 1)) [(0, v157), (1, v160), (2, v163), (3, v166), (4, v169), (5, v172), (6, v175), (7, v178)]) fun v179 =>
 sb (aStore H154 8 v3 v179) fun H180 =>
 fin .ret [.c true 8 (v3)] H180 K)
 (False))
 (False))
 (False)

def sha_tail.L2.b (x0 : AVal) (x3_2 : AVal) (H3 : AHeap) (Kn4 : List AVal → AHeap → Prop) (Ke5 : AExit → List AVal → AHeap → Prop) : Prop :=
 vb (lenSl x3_2) fun v6 =>
 vb (aBin .add x0 v6) fun v7 =>
 vb (aBin .rem v7 (.int .i64 64)) fun v8 =>
 vb (aBin .neq v8 (.int .i64 56)) fun v9 =>
 isB v9 fun b10 => cond b10
 (hb (aBuildSlice H3 1 [.int .u8 0] 1 [(0, .int .u8 0)]) fun v11 H12 =>
 hb (aAppendS H12 1 1 x3_2 v11) fun v13 H14 =>
 Kn4 [v13] H14)
 (Ke5 (.exit 0) [x3_2] H3)

def sha_tail.L2 (x0 : AVal) : Body := fun vs H Kn Ke => sha_tail.L2.b x0 (vs.getD 0 .undef) H Kn Ke

def sha_tail.L6.b (v19 : AVal) (x3_6 : AVal) (x5_6 : AVal) (H20 : AHeap) (Kn21 : List AVal → AHeap → Prop) (Ke22 : AExit → List AVal → AHeap → Prop) : Prop :=
 vb (aBin .geq x5_6 (.int .i64 0)) fun v23 =>
 isB v23 fun b24 => cond b24
 (vb (aBin .shr v19 x5_6) fun v25 =>
 vb (aInt2 .u8 v25) fun v26 =>
 hb (aBuildSlice H20 1 [.int .u8 0] 1 [(0, v26)]) fun v27 H28 =>
 hb (aAppendS H28 1 1 x3_6 v27) fun v29 H30 =>
 vb (aBin .sub x5_6 (.int .i64 8)) fun v31 =>
 Kn21 [v29, v31] H30)
 (Ke22 (.exit 2) [x3_6] H20)

def sha_tail.L6 (v19 : AVal) : Body := fun vs H Kn Ke => sha_tail.L6.b v19 (vs.getD 0 .undef) (vs.getD 1 .undef) H Kn Ke

def sha_tail.w (x0 : AVal) (H : AHeap) (K : AVal → AHeap → Prop) : Prop :=
 hb (aBuildSlice H 1 [.int .u8 0] 1 [(0, .int .u8 128)]) fun v1 H2 =>
 LoopP (sha_tail.L2 x0) [v1] H2 fun e15 vs16 H17 =>
 onE e15 (.exit 0)
 (vb (aInt2 .u64 x0) fun v18 =>
 vb (aBin .mul v18 (.int .u64 8)) fun v19 =>
 LoopP (sha_tail.L6 v19) [vs16.getD 0 .undef, .int .i64 56] H17 fun e32 vs33 H34 =>
 onE e32 (.exit 2)
 (vb (aBytes2Str H34 (vs33.getD 0 .undef)) fun v35 =>
 fin .ret [.v (v35)] H34 K)
 (False))
 (False)

def sha_digest.L3.b (v7 : AVal) (v5 : AVal) (x7_3 : AVal) (H8 : AHeap) (Kn9 : List AVal → AHeap → Prop) (Ke10 : AExit → List AVal → AHeap → Prop) : Prop :=
 vb (aBin .lss x7_3 (.int .i64 8)) fun v11 =>
 isB v11 fun b12 => cond b12
 (vb (aIndexArr 8 false 1 v7 x7_3) fun v13 =>
 vb (aBin .mul (.int .i64 4) x7_3) fun v14 =>
 vb (aBin .mul (.int .i64 4) x7_3) fun v15 =>
 vb (aBin .add v15 (.int .i64 1)) fun v16 =>
 vb (aBin .mul (.int .i64 4) x7_3) fun v17 =>
 vb (aBin .add v17 (.int .i64 2)) fun v18 =>
 vb (aBin .mul (.int .i64 4) x7_3) fun v19 =>
 vb (aBin .add v19 (.int .i64 3)) fun v20 =>
 vb (aBin .shr v13 (.int .u64 24)) fun v21 =>
 vb (aInt2 .u8 v21) fun v22 =>
 vb (aBin .shr v13 (.int .u64 16)) fun v23 =>
 vb (aInt2 .u8 v23) fun v24 =>
 vb (aBin .shr v13 (.int .u64 8)) fun v25 =>
 vb (aInt2 .u8 v25) fun v26 =>
 vb (aInt2 .u8 v13) fun v27 =>
 vb (aIndexAddrArr 32 1 v5 v14) fun v28 =>
 sb (aStore H8 1 v28 v22) fun H29 =>
 vb (aIndexAddrArr 32 1 v5 v16) fun v30 =>
 sb (aStore H29 1 v30 v24) fun H31 =>
 vb (aIndexAddrArr 32 1 v5 v18) fun v32 =>
 sb (aStore H31 1 v32 v26) fun H33 =>
 vb (aIndexAddrArr 32 1 v5 v20) fun v34 =>
 sb (aStore H33 1 v34 v27) fun H35 =>
 vb (aBin .add x7_3 (.int .i64 1)) fun v36 =>
 Kn9 [v36] H35)
 (Ke10 (.exit 0) [] H8)

def sha_digest.L3 (v7 : AVal) (v5 : AVal) : Body := fun vs H Kn Ke => sha_digest.L3.b v7 v5 (vs.getD 0 .undef) H Kn Ke

def sha_digest.w (x0 : AVal) (H : AHeap) (K : AVal → AHeap → Prop) : Prop :=
 hb (aBox H x0) fun v1 H2 =>
 hb (aAlloc H2 (List.replicate 32 (.int .u8 0))) fun v3 H4 =>
 hb (aAlloc H4 (List.replicate 32 (.int .u8 0))) fun v5 H6 =>
 vb (aLoad H6 true 8 v1) fun v7 =>
 LoopP (sha_digest.L3 v7 v5) [.int .i64 0] H6 fun e37 vs38 H39 =>
 onE e37 (.exit 0)
 (vb (aLoad H39 true 32 v5) fun v40 =>
 sb (aStore H39 32 v3 v40) fun H41 =>
 fin .ret [.c true 32 (v3)] H41 K)
 (False)

def sha_Sum.L3.b (v5 : AVal) (x0_3 : AVal) (H9 : AHeap) (Kn10 : List AVal → AHeap → Prop) (Ke11 : AExit → List AVal → AHeap → Prop) : Prop :=
 vb (lenSt x0_3) fun v12 =>
 vb (aBin .geq v12 (.int .i64 64)) fun v13 =>
 isB v13 fun b14 => cond b14
 (vb (aLoad H9 true 8 v5) fun v15 =>
 vb (aSliceStr x0_3 none (some (.int .i64 64))) fun v16 =>
 cb (S_sha_work [v15, v16] H9) fun v17 H18 =>
 sb (aStore H18 8 v5 v17) fun H19 =>
 vb (aSliceStr x0_3 (some (.int .i64 64)) none) fun v20 =>
 Kn10 [v20] H19)
 (Ke11 (.exit 0) [x0_3] H9)

def sha_Sum.L3 (v5 : AVal) : Body := fun vs H Kn Ke => sha_Sum.L3.b v5 (vs.getD 0 .undef) H Kn Ke

def sha_Sum.L7.b (v5 : AVal) (x0_7 : AVal) (H27 : AHeap) (Kn28 : List AVal → AHeap → Prop) (Ke29 : AExit → List AVal → AHeap → Prop) : Prop :=
 vb (lenSt x0_7) fun v30 =>
 vb (aBin .gtr v30 (.int .i64 0)) fun v31 =>
 isB v31 fun b32 => cond b32
 (vb (aLoad H27 true 8 v5) fun v33 =>
 vb (aSliceStr x0_7 none (some (.int .i64 64))) fun v34 =>
 cb (S_sha_work [v33, v34] H27) fun v35 H36 =>
 sb (aStore H36 8 v5 v35) fun H37 =>
 vb (aSliceStr x0_7 (some (.int .i64 64)) none) fun v38 =>
 Kn28 [v38] H37)
 (Ke29 (.exit 2) [] H27)

def sha_Sum.L7 (v5 : AVal) : Body := fun vs H Kn Ke => sha_Sum.L7.b v5 (vs.getD 0 .undef) H Kn Ke

def sha_Sum.w (x0 : AVal) (H : AHeap) (K : AVal → AHeap → Prop) : Prop :=
 hb (aAlloc H (List.replicate 32 (.int .u8 0))) fun v1 H2 =>
 cb (S_sha_Words [] H2) fun v3 H4 =>
 hb (aAlloc H4 (List.replicate 8 (.int .u32 0))) fun v5 H6 =>
 sb (aStore H6 8 v5 v3) fun H7 =>
 vb (lenSt x0) fun v8 =>
 LoopP (sha_Sum.L3 v5) [x0] H7 fun e21 vs22 H23 =>
 onE e21 (.exit 0)
 (cb (S_sha_tail [v8] H23) fun v24 H25 =>
 vb (aBin .add (vs22.getD 0 .undef) v24) fun v26 =>
 LoopP (sha_Sum.L7 v5) [v26] H25 fun e39 vs40 H41 =>
 onE e39 (.exit 2)
 (vb (aLoad H41 true 8 v5) fun v42 =>
 cb (S_sha_digest [v42] H41) fun v43 H44 =>
 sb (aStore H44 32 v1 v43) fun H45 =>
 fin .ret [.c true 32 (v1)] H45 K)
 (False))
 (False)

end Go.Sh

/- The functions of the package sha: the block, the tail, the sum. -/
namespace Go.Sh
open Go Go.Abs

theorem sha_Words.ok (args : List AVal) (H : AHeap) (r : AVal) (H' : AHeap) (h : S_sha_Words args H r H') : args = [] ∧ sha_Words.w H fun r1 H1 => Weak H r1 H1 r H' := by
  obtain ⟨rfl, rfl, rfl⟩ := h
  refine ⟨rfl, ?_⟩
  unfold sha_Words.w
  refine hb_i rfl ?_
  refine vb_i (v := .agg (first.map U)) rfl ?_
  refine sb_i (e_storeAll (app_get0 _ _) (by decide) rfl rfl rfl) ?_
  rw [app_set0]
  exact fin_ret (vs := [.agg (first.map U)]) (rvs_c (e_loadAll (app_get0 _ _) rfl) (rvs_nil _)) (Weak.agg (map_plain U_plain _) (pre_app _ _))

theorem sha_constants.ok (args : List AVal) (H : AHeap) (r : AVal) (H' : AHeap) (h : S_sha_constants args H r H') : args = [] ∧ sha_constants.w H fun r1 H1 => Weak H r1 H1 r H' := by
  obtain ⟨rfl, rfl, rfl⟩ := h
  refine ⟨rfl, ?_⟩
  unfold sha_constants.w
  refine hb_i rfl ?_
  refine vb_i (v := .agg (kk.map U)) rfl ?_
  refine sb_i (e_storeAll (app_get0 _ _) (by decide) rfl rfl rfl) ?_
  rw [app_set0]
  exact fin_ret (vs := [.agg (kk.map U)]) (rvs_c (e_loadAll (app_get0 _ _) rfl) (rvs_nil _)) (Weak.agg (map_plain U_plain _) (pre_app _ _))

theorem wl_len (s : List UInt8) (n : Nat) : (wl s n).length = n := by
  induction n with
  | zero => rfl
  | succ n ih => simp [wl, ih]

/-- The words so far, and noughts. -/
def wz (s : List UInt8) (n : Nat) : List W32 := wl s n ++ List.replicate (64 - n) 0
theorem wz_len (s : List UInt8) {n : Nat} (h : n ≤ 64) : (wz s n).length = 64 := by simp [wz, wl_len]; omega
theorem wz_get (s : List UInt8) {n i : Nat} (h : i < n) : (wz s n).getD i 0 = (wl s n).getD i 0 := by
  simp [wz, List.getD, List.getElem?_append_left (show i < (wl s n).length by rw [wl_len]; exact h)]
theorem wz_set (s : List UInt8) {n : Nat} (h : n < 64) {x : W32} (hx : wl s (n + 1) = wl s n ++ [x]) : (wz s n).set n x = wz s (n + 1) := by
  simp only [wz, hx]
  rw [List.set_append_right _ _ (by rw [wl_len]; exact Nat.le_refl _), wl_len, Nat.sub_self]
  rw [show 64 - n = (64 - (n + 1)) + 1 by omega, List.replicate_succ]
  simp
theorem map_set (l : List W32) (n : Nat) (x : W32) : (l.map U).set n (U x) = (l.set n x).map U := by rw [List.map_set]

theorem sha_work.L17_ok {B : AHeap} {i5 i85 : Nat} {ws : List W32} (hw : B[i5]? = some (.cells 0 .exact (ws.map U))) (hk : B[i85]? = some (.cells 0 .exact (kk.map U))) (hl : ws.length = 64)
    (s0 : St) {K : AExit → List AVal → AHeap → Prop}
    (h : ∀ s, s = rounds ws s0 64 → K (.exit 4) [U s.a, U s.b, U s.c, U s.d, U s.e, U s.f, U s.g, U s.h] B) :
    LoopP (sha_work.L17 (.ptr ⟨i85, 0, 0⟩) (.ptr ⟨i5, 0, 0⟩)) [U s0.a, U s0.b, U s0.c, U s0.d, U s0.e, U s0.f, U s0.g, U s0.h, .int .i64 0] B K := by
  refine LoopP.ruleG (α := Nat) (fun i => let s := rounds ws s0 i; [U s.a, U s.b, U s.c, U s.d, U s.e, U s.f, U s.g, U s.h, .int .i64 i]) (fun i H => i ≤ 64 ∧ H = B) (fun i => 64 - i) 0 rfl ⟨by omega, rfl⟩ ?_
  rintro i H Kn ⟨hi, rfl⟩ hn
  unfold sha_work.L17 sha_work.L17.b
  simp only [List.getD_cons_zero, List.getD_cons_succ, ev]
  have hkk : kk.length = 64 := rfl
  refine isB_d (fun h1 => ?_) (fun h1 => ?_)
  · simp (disch := first | omega | (simp only [evS]; done) | (simp only [len_map, len_set]; omega) | fail) only [ev, evU, evH, hk, hw, getD_map (0 : W32)]
    simpa [rounds, St.go, S0, S1, maj, chs] using hn (i + 1) H ⟨by omega, rfl⟩ (by omega)
  · have : i = 64 := by omega
    subst this
    exact h _ rfl

theorem sha_work.L3_ok {H : AHeap} {A C : AObj} {s : List UInt8} (hs : s.length = 64) {K : AExit → List AVal → AHeap → Prop}
    (h : K (.exit 0) [] (H ++ [A, C, .cells 0 .exact ((wz s 16).map U)])) :
    LoopP (sha_work.L3 (.str s) (.ptr ⟨H.length + 2, 0, 0⟩)) [.int .i64 0] (H ++ [A, C, .cells 0 .exact ((wz s 0).map U)]) K := by
  refine LoopP.ruleG (α := Nat) (fun i => [.int .i64 i]) (fun i B => i ≤ 16 ∧ B = H ++ [A, C, .cells 0 .exact ((wz s i).map U)]) (fun i => 16 - i) 0 rfl ⟨by omega, rfl⟩ ?_
  rintro i B Kn ⟨hi, rfl⟩ hn
  unfold sha_work.L3 sha_work.L3.b
  simp only [List.getD_cons_zero, ev]
  refine isB_d (fun h1 => ?_) (fun h1 => ?_)
  · have hl := wz_len s (n := i) (by omega)
    simp (disch := first | omega | (simp only [evS]; done) | (simp only [len_map, len_set]; omega) | fail) only [ev, evU, evH, List.getElem?_cons_zero, List.getElem?_cons_succ, List.set_cons_zero, List.set_cons_succ, map_set]
    have hw := wz_set s (n := i) (by omega) (x := word s i) (by simp only [wl]; rw [if_pos (by omega)])
    rw [show (0 + (i : Int).toNat * 1) = i by omega, show (4 * (i : Int)).toNat = 4 * i by omega, show (4 * (i : Int) + 1).toNat = 4 * i + 1 by omega, show (4 * (i : Int) + 2).toNat = 4 * i + 2 by omega, show (4 * (i : Int) + 3).toNat = 4 * i + 3 by omega]
    exact hn (i + 1) _ ⟨by omega, by rw [← hw]; rfl⟩ (by omega)
  · have : i = 16 := by omega
    subst this
    exact h

theorem sha_work.L8_ok {H : AHeap} {A C : AObj} {s : List UInt8} {K : AExit → List AVal → AHeap → Prop}
    (h : K (.exit 2) [] (H ++ [A, C, .cells 0 .exact ((wl s 64).map U)])) :
    LoopP (sha_work.L8 (.ptr ⟨H.length + 2, 0, 0⟩)) [.int .i64 16] (H ++ [A, C, .cells 0 .exact ((wz s 16).map U)]) K := by
  refine LoopP.ruleG (α := Nat) (fun i => [.int .i64 i]) (fun i B => 16 ≤ i ∧ i ≤ 64 ∧ B = H ++ [A, C, .cells 0 .exact ((wz s i).map U)]) (fun i => 64 - i) 16 rfl ⟨by omega, by omega, rfl⟩ ?_
  rintro i B Kn ⟨h16, hi, rfl⟩ hn
  unfold sha_work.L8 sha_work.L8.b
  simp only [List.getD_cons_zero, ev]
  refine isB_d (fun h1 => ?_) (fun h1 => ?_)
  · have hl := wz_len s (n := i) (by omega)
    simp (disch := first | omega | (simp only [evS]; done) | (simp only [len_map, len_set]; omega) | fail) only [ev, evU, evH, List.getElem?_cons_zero, List.getElem?_cons_succ, List.set_cons_zero, List.set_cons_succ, getD_map (0 : W32), map_set]
    have hw := wz_set s (n := i) (by omega) (x := (wl s i).getD (i - 16) 0 + s0 ((wl s i).getD (i - 15) 0) + (wl s i).getD (i - 7) 0 + s1 ((wl s i).getD (i - 2) 0)) (by simp only [wl]; rw [if_neg (by omega)])
    rw [show (0 + (i : Int).toNat * 1) = i by omega, show (0 + ((i : Int) - 16).toNat * 1) = i - 16 by omega, show (0 + ((i : Int) - 15).toNat * 1) = i - 15 by omega, show (0 + ((i : Int) - 7).toNat * 1) = i - 7 by omega, show (0 + ((i : Int) - 2).toNat * 1) = i - 2 by omega]
    rw [wz_get s (by omega), wz_get s (by omega), wz_get s (by omega), wz_get s (by omega)]
    exact hn (i + 1) _ ⟨by omega, by omega, by rw [← hw]; rfl⟩ (by omega)
  · have : i = 64 := by omega
    subst this
    simpa [wz] using h

theorem sha_work.ok (args : List AVal) (H : AHeap) (r : AVal) (H' : AHeap) (h : S_sha_work args H r H') : ∃ x0 x1, args = [x0, x1] ∧ sha_work.w x0 x1 H fun r1 H1 => Weak H r1 H1 r H' := by
  obtain ⟨hs, s, rfl, hl, h64, rfl, rfl⟩ := h
  refine ⟨_, _, rfl, ?_⟩
  unfold sha_work.w
  simp only [evH, hb_some, List.append_assoc, List.cons_append, List.nil_append, List.length_append, List.length_cons, List.length_nil, Nat.zero_add, Nat.reduceAdd]
  have e : (List.replicate 64 (AVal.int .u32 0)) = (wz s 0).map U := rfl
  rw [e]
  refine sha_work.L3_ok h64 ?_
  rw [onE_same]
  refine sha_work.L8_ok ?_
  rw [onE_same]
  refine cb_i _ _ ⟨rfl, rfl, rfl⟩ ?_
  match hs, hl with
  | [a, b, c, d, e, f, g, z], _ =>
  have hkl : kk.length = 64 := rfl
  have hz := wz_len s (n := 0) (by omega)
  simp (disch := first | omega | (simp only [evS]; done) | (simp only [len_map, len_rep, len_cons, len_nil, hkl, hz] <;> omega) | fail) only [ev, evH, List.append_assoc, List.cons_append, List.nil_append, List.length_append, List.length_cons, List.length_nil, Nat.zero_add, Nat.add_assoc, Nat.reduceAdd, List.getElem?_cons_zero, List.getElem?_cons_succ, List.set_cons_zero, List.set_cons_succ, getD_map (0 : W32), List.map_cons, List.map_nil]
  refine sha_work.L17_ok (ws := wl s 64) ?_ ?_ (wl_len _ _) (St.of [a, b, c, d, e, f, g, z]) fun r hr => ?_
  · rw [app_get]; rfl
  · rw [app_get]; rfl
  rw [onE_same]
  simp (disch := first | omega | (simp only [evS]; done) | (simp only [len_map, len_rep, len_cons, len_nil, hkl, hz] <;> omega) | fail) only [ev, evU, evH, List.getElem?_cons_zero, List.getElem?_cons_succ, List.getD_cons_zero, List.getD_cons_succ, Nat.zero_add, Int.toNat_zero, Int.reduceToNat, Nat.reduceMul]
  have hw : (work [a, b, c, d, e, f, g, z] s).map U = [U (a + r.a), U (b + r.b), U (c + r.c), U (d + r.d), U (e + r.e), U (f + r.f), U (g + r.g), U (z + r.h)] := by
    rw [hr]; rfl
  clear hr
  have e8 : List.replicate 8 (AVal.int .u32 0) = [.int .u32 0, .int .u32 0, .int .u32 0, .int .u32 0, .int .u32 0, .int .u32 0, .int .u32 0, .int .u32 0] := rfl
  simp (disch := first | omega | (simp only [evS]; done) | (simp only [len_map, len_rep, len_cons, len_nil, len_set] <;> omega) | rfl | fail) only [e8, ev, evF, evH, List.getElem?_cons_zero, List.getElem?_cons_succ, List.set_cons_zero, List.set_cons_succ, Nat.mul_one, Nat.zero_mul, Nat.one_mul]
  rw [← hw]
  have hwl : (work [a, b, c, d, e, f, g, z] s).length = 8 := rfl
  simp (disch := first | (simp only [evS]; done) | (simp only [len_map, hwl, len_cons, len_nil] <;> omega) | fail) only [evH, sb_some, List.set_cons_zero, List.set_cons_succ]
  refine fin_ret (vs := [.agg ((work [a, b, c, d, e, f, g, z] s).map U)]) ?_ (Weak.agg (map_plain U_plain _) (pre_app _ _))
  exact rvs_c (e_loadAll (by rw [app_get]; rfl) rfl) (rvs_nil _)
end Go.Sh

/- The functions of the package sha: the tail, the digest, the sum. -/
namespace Go.Sh
open Go Go.Abs

theorem map_snoc {α β : Type} (f : α → β) (l : List α) (x : α) : l.map f ++ [f x] = (l ++ [x]).map f := by simp

theorem sha_tail.ok (args : List AVal) (H : AHeap) (r : AVal) (H' : AHeap) (h : S_sha_tail args H r H') : ∃ x0, args = [x0] ∧ sha_tail.w x0 H fun r1 H1 => Weak H r1 H1 r H' := by
  obtain ⟨n, rfl, hn, rfl, rfl⟩ := h
  refine ⟨_, rfl, ?_⟩
  unfold sha_tail.w
  have hz : zeros n = (119 - n % 64) % 64 := rfl
  refine hb_i (v := .slice ⟨H'.length, 0, 0⟩ 1 (.ex 1)) (H := H' ++ [.cells 0 .exact [ofByte 128]]) rfl ?_
  refine LoopP.ruleG (α := AVal × Nat) (fun a => [a.1])
    (fun a B => a.2 ≤ zeros n ∧ H' <+: B ∧ (∀ i, slId a.1 = some i → H'.length ≤ i) ∧ Own B a.1 1 (1 + a.2) (((128 : UInt8) :: List.replicate a.2 0).map ofByte)) (fun a => zeros n - a.2) (.slice ⟨H'.length, 0, 0⟩ 1 (.ex 1), 0) rfl
    ⟨Nat.zero_le _, pre_app _ _, fun i hi => by cases hi; exact Nat.le_refl _, rfl, .inr (.inl ⟨H'.length, 0, rfl, by simp⟩)⟩ ?_
  rintro ⟨sv, k⟩ B Kn ⟨hk, hp, hid, ho⟩ hnx
  simp only at hk ho hid
  unfold sha_tail.L2 sha_tail.L2.b
  simp (disch := omega) only [List.getD_cons_zero, ev, lenSl_view ho.view]
  refine isB_d (fun h1 => ?_) (fun h1 => ?_)
  · refine push1 (x := ofByte 0) ho rfl (by simp only [room]; omega) (by simp only [room]; omega) fun sv' B' o kk hi => ?_
    refine hnx (sv', k + 1) B' ⟨?_, kk.pre hp hid, fun i hi' => ?_, ?_⟩ ?_
    · simp only; omega
    · rcases hi with hi | ⟨j, hj, hj2⟩
      · exact hid i (by rw [← hi]; exact hi')
      · simp only at hi'
        rw [hj] at hi'; cases hi'
        have := hp.length_le; omega
    · rw [map_snoc] at o
      rw [List.replicate_succ']
      exact o
    · simp only; omega
  · have hk' : k = zeros n := by omega
    subst hk'
    simp (disch := omega) only [ev, List.getD_cons_zero]
    refine LoopP.ruleG (α := AVal × Nat) (fun a => [a.1, .int .i64 (56 - 8 * (a.2 : Int))])
      (fun a B => a.2 ≤ 8 ∧ H' <+: B ∧ (∀ i, slId a.1 = some i → H'.length ≤ i) ∧ Own B a.1 1 (1 + zeros n + a.2) (((128 : UInt8) :: List.replicate (zeros n) 0 ++ (be64 (n * 8)).take a.2).map ofByte)) (fun a => 8 - a.2) (sv, 0) rfl
      ⟨Nat.zero_le _, hp, hid, by simpa using ho⟩ ?_
    rintro ⟨sv, q⟩ B Kn ⟨hk, hp, hid, ho⟩ hnx
    simp only at hk ho hid
    unfold sha_tail.L6 sha_tail.L6.b
    simp (disch := omega) only [List.getD_cons_zero, List.getD_cons_succ, ev]
    refine isB_d (fun h1 => ?_) (fun h1 => ?_)
    · rw [cond_true, shr_int .u64 .i64 (by omega) (by omega) (by simp only [IntKind.bits]; omega)]
      simp only [vb_some]
      rw [byte_of_int .u64 (by exact Int.ediv_nonneg (by omega) (Int.le_of_lt (Int.pow_pos (by decide))))]
      simp only [vb_some]
      refine push1 ho rfl (by simp only [room]; omega) (by simp only [room]; omega) fun sv' B' o kk hi => ?_
      have e : (56 - 8 * (q : Int) - 8) = 56 - 8 * ((q + 1 : Nat) : Int) := by omega
      rw [e]
      refine hnx (sv', q + 1) B' ⟨by simp only; omega, kk.pre hp hid, fun i hi' => ?_, ?_⟩ (by simp only; omega)
      · rcases hi with hi | ⟨j, hj, hj2⟩
        · exact hid i (by rw [← hi]; exact hi')
        · simp only at hi'
          rw [hj] at hi'; cases hi'
          have := hp.length_le; omega
      · rw [map_snoc] at o
        have hx : (be64 (n * 8)).take (q + 1) = (be64 (n * 8)).take q ++ [UInt8.ofNat ((n : Int) * 8 / 2 ^ (56 - 8 * (q : Int)).toNat).toNat] := by
          have hq : q < (be64 (n * 8)).length := by simp [be64]; omega
          rw [List.take_succ_eq_append_getElem hq]
          congr 2
          have hc : ((n : Int) * 8) = ((n * 8 : Nat) : Int) := by omega
          have hc2 : ((2 : Int) ^ (56 - 8 * (q : Int)).toNat) = ((2 ^ (56 - 8 * q) : Nat) : Int) := by
            rw [Int.natCast_pow, show (56 - 8 * (q : Int)).toNat = 56 - 8 * q by omega]; rfl
          rw [hc, hc2, ← Int.natCast_ediv, Int.toNat_natCast]
          have : q < 8 := by omega
          match q, this with
          | 0, _ | 1, _ | 2, _ | 3, _ | 4, _ | 5, _ | 6, _ | 7, _ => rfl
        simp only
        rw [hx, ← List.append_assoc]
        exact o
    · have : q = 8 := by omega
      subst this
      simp only [cond_false, onE_same]
      have hb : (be64 (n * 8)).take 8 = be64 (n * 8) := rfl
      rw [hb] at ho
      rw [bytes_str ho.view]
      simp only [vb_some]
      exact fin_ret (rvs_v (rvs_nil _)) (Weak.plain rfl hp)

/-- The bytes so far, and noughts. -/
def dz (h : List W32) (i : Nat) : List UInt8 := digest (h.take i) ++ List.replicate (32 - 4 * i) 0
theorem digest_len4 (h : List W32) : (digest h).length = 4 * h.length := by
  induction h with
  | nil => rfl
  | cons w h ih =>
    have : digest (w :: h) = bytes4 w ++ digest h := rfl
    rw [this, List.length_append, ih, List.length_cons]
    simp [bytes4]; omega
theorem dz_len {h : List W32} (hh : h.length = 8) {i : Nat} (hi : i ≤ 8) : (dz h i).length = 32 := by simp [dz, digest_len4]; omega
theorem dz_set {h : List W32} (hh : h.length = 8) {i : Nat} (hi : i < 8) :
    ((((dz h i).set (4 * i) (UInt8.ofNat (h.getD i 0 >>> 24).toNat)).set (4 * i + 1) (UInt8.ofNat (h.getD i 0 >>> 16).toNat)).set (4 * i + 2) (UInt8.ofNat (h.getD i 0 >>> 8).toNat)).set (4 * i + 3) (UInt8.ofNat (h.getD i 0).toNat) = dz h (i + 1) := by
  have hl : (digest (h.take i)).length = 4 * i := by rw [digest_len4]; simp; omega
  have e1 : List.replicate (32 - 4 * i) (0 : UInt8) = 0 :: 0 :: 0 :: 0 :: List.replicate (32 - 4 * (i + 1)) 0 := by
    rw [show 32 - 4 * i = (32 - 4 * (i + 1)) + 1 + 1 + 1 + 1 by omega]; rfl
  have e2 : digest (h.take (i + 1)) = digest (h.take i) ++ bytes4 (h.getD i 0) := by
    rw [List.take_succ_eq_append_getElem (by omega)]
    have hi' : i < h.length := by omega
    have hg : h.getD i 0 = h[i] := by simp [List.getD, hi']
    rw [hg]
    simp only [digest, List.map_append, List.flatten_append, List.map_cons, List.map_nil, List.flatten_cons, List.flatten_nil, List.append_nil]
  simp only [dz, e1, e2]
  rw [List.set_append_right _ _ (by omega), List.set_append_right _ _ (by omega), List.set_append_right _ _ (by omega), List.set_append_right _ _ (by omega), hl]
  rw [show 4 * i - 4 * i = 0 by omega, show 4 * i + 1 - 4 * i = 1 by omega, show 4 * i + 2 - 4 * i = 2 by omega, show 4 * i + 3 - 4 * i = 3 by omega]
  simp [bytes4]
theorem map_setB (l : List UInt8) (n : Nat) (x : UInt8) : (l.map ofByte).set n (ofByte x) = (l.set n x).map ofByte := by rw [List.map_set]

theorem sha_digest.ok (args : List AVal) (H : AHeap) (r : AVal) (H' : AHeap) (h : S_sha_digest args H r H') : ∃ x0, args = [x0] ∧ sha_digest.w x0 H fun r1 H1 => Weak H r1 H1 r H' := by
  obtain ⟨h, rfl, hh, rfl, rfl⟩ := h
  refine ⟨_, rfl, ?_⟩
  unfold sha_digest.w
  simp (disch := first | omega | (simp only [len_map, hh]; done) | fail) only [ev, evH, List.append_assoc, List.cons_append, List.nil_append, List.length_append, List.length_cons, List.length_nil, Nat.zero_add, Nat.add_assoc, Nat.reduceAdd, List.getElem?_cons_zero]
  refine LoopP.ruleG (α := Nat) (fun i => [.int .i64 i])
    (fun i B => i ≤ 8 ∧ B = H' ++ [.cells 0 .exact (h.map U), .cells 0 .exact (List.replicate 32 (.int .u8 0)), .cells 0 .exact ((dz h i).map ofByte)]) (fun i => 8 - i) 0 rfl ⟨by omega, rfl⟩ ?_
  rintro i B Kn ⟨hi, rfl⟩ hn
  unfold sha_digest.L3 sha_digest.L3.b
  simp only [List.getD_cons_zero, ev]
  have hl := dz_len hh hi
  refine isB_d (fun h1 => ?_) (fun h1 => ?_)
  · simp (disch := first | omega | (simp only [evS]; done) | (simp only [len_map, len_set, hh, hl] <;> omega) | fail) only [ev, evU, evH, getD_map (0 : W32), List.getElem?_cons_zero, List.getElem?_cons_succ, List.set_cons_zero, List.set_cons_succ, map_setB]
    have hw := dz_set hh (i := i) (by omega)
    refine hn (i + 1) _ ⟨by omega, ?_⟩ (by omega)
    rw [← hw, show (0 + (4 * (i : Int)).toNat * 1) = 4 * i by omega, show (0 + (4 * (i : Int) + 1).toNat * 1) = 4 * i + 1 by omega, show (0 + (4 * (i : Int) + 2).toNat * 1) = 4 * i + 2 by omega, show (0 + (4 * (i : Int) + 3).toNat * 1) = 4 * i + 3 by omega, show (i : Int).toNat = i by omega]
    rfl
  · have : i = 8 := by omega
    subst this
    have hd : dz h 8 = digest h := by simp [dz, List.take_of_length_le (show h.length ≤ 8 by omega)]
    have hdl := digest_len hh
    rw [hd]
    simp (disch := first | omega | (simp only [evS]; done) | (simp only [len_map, len_rep, hdl] <;> omega) | fail) only [ev, evH, List.getElem?_cons_zero, List.getElem?_cons_succ, List.set_cons_zero, List.set_cons_succ]
    refine fin_ret (vs := [.agg ((digest h).map ofByte)]) ?_ (Weak.agg (map_plain (fun _ => rfl) _) (pre_app _ _))
    exact rvs_c (e_loadAll (by rw [app_get]; rfl) (by simp [hdl])) (rvs_nil _)
end Go.Sh

/- The functions of the package sha: the sum. -/
namespace Go.Sh
open Go Go.Abs

theorem eat_succ (k : Nat) (h : List W32) (s : List UInt8) : eat (k + 1) h s = work (eat k h s) ((s.drop (64 * k)).take 64) := by
  rw [eat_add]; rfl

theorem sha_Sum.ok (args : List AVal) (H : AHeap) (r : AVal) (H' : AHeap) (h : S_sha_Sum args H r H') : ∃ x0, args = [x0] ∧ sha_Sum.w x0 H fun r1 H1 => Weak H r1 H1 r H' := by
  obtain ⟨s, rfl, hs, rfl, rfl⟩ := h
  refine ⟨_, rfl, ?_⟩
  unfold sha_Sum.w
  have hf : first.length = 8 := rfl
  simp only [ev, evH]
  refine cb_i _ _ ⟨rfl, rfl, rfl⟩ ?_
  simp (disch := first | omega | (simp only [evS]; done) | (simp only [len_map, len_rep, hf] <;> omega) | fail) only [ev, evH, List.append_assoc, List.cons_append, List.nil_append, List.length_append, List.length_cons, List.length_nil, Nat.zero_add, Nat.add_assoc, Nat.reduceAdd, List.getElem?_cons_zero, List.getElem?_cons_succ, List.set_cons_zero, List.set_cons_succ]
  refine LoopP.ruleG (α := Nat) (fun k => [.str (s.drop (64 * k))])
    (fun k B => 64 * k ≤ s.length ∧ B = H' ++ [.cells 0 .exact (List.replicate 32 (.int .u8 0)), .cells 0 .exact ((eat k first s).map U)]) (fun k => s.length - 64 * k) 0 (by simp) ⟨by omega, rfl⟩ ?_
  rintro k B Kn ⟨hk, rfl⟩ hn
  unfold sha_Sum.L3 sha_Sum.L3.b
  simp only [List.getD_cons_zero, ev, List.length_drop]
  have he := eat_len k first s hf
  refine isB_d (fun h1 => ?_) (fun h1 => ?_)
  · simp (disch := first | omega | (simp only [evS]; done) | (simp only [len_map, len_drop, he] <;> omega) | fail) only [ev, evH, List.getElem?_cons_zero, List.getElem?_cons_succ]
    refine cb_i _ _ ⟨_, _, rfl, he, ?_, rfl, rfl⟩ ?_
    · simp; omega
    · have hwl := work_len (eat k first s) (List.take (Int.toNat 64) (List.drop (64 * k) s))
      simp (disch := first | omega | (simp only [evS]; done) | (simp only [len_map, len_drop, he, hwl] <;> omega) | fail) only [ev, evH, List.getElem?_cons_zero, List.getElem?_cons_succ, List.set_cons_zero, List.set_cons_succ]
      rw [List.drop_drop]
      refine hn (k + 1) _ ⟨by omega, ?_⟩ (by omega)
      rw [eat_succ]; rfl
  · simp only [ev]
    refine cb_i _ _ ⟨s.length, rfl, hs, rfl, rfl⟩ ?_
    have hz : zeros s.length = (119 - s.length % 64) % 64 := rfl
    have htl := tailB_len s.length
    simp (disch := first | omega | (simp only [len_drop] <;> omega) | fail) only [ev, List.getD_cons_zero]
    have hpm := pad_mod s
    have hpl : (pad s).length = s.length + (9 + zeros s.length) := by rw [pad, List.length_append, htl]
    have hpd : ∀ j, 64 * j ≤ s.length → s.drop (64 * j) ++ tailB s.length = (pad s).drop (64 * j) := fun j hj => by rw [pad, List.drop_append_of_le_length hj]
    have hpe : eat k first s = eat k first (pad s) := (eat_app k first s _ hk).symm
    rw [hpd k hk, hpe]
    generalize hp : pad s = p at *
    refine LoopP.ruleG (α := Nat) (fun j => [.str (p.drop (64 * j))])
      (fun j B => 64 * j ≤ p.length ∧ B = H' ++ [.cells 0 .exact (List.replicate 32 (.int .u8 0)), .cells 0 .exact ((eat j first p).map U)]) (fun j => p.length - 64 * j) k rfl ⟨by omega, rfl⟩ ?_
    rintro j B Kn ⟨hj, rfl⟩ hn
    unfold sha_Sum.L7 sha_Sum.L7.b
    simp only [List.getD_cons_zero, ev, List.length_drop]
    have he := eat_len j first p hf
    refine isB_d (fun h1 => ?_) (fun h1 => ?_)
    · simp (disch := first | omega | (simp only [evS]; done) | (simp only [len_map, len_drop, he] <;> omega) | fail) only [ev, evH, List.getElem?_cons_zero, List.getElem?_cons_succ]
      refine cb_i _ _ ⟨_, _, rfl, he, ?_, rfl, rfl⟩ ?_
      · simp; omega
      · have hwl := work_len (eat j first p) (List.take (Int.toNat 64) (List.drop (64 * j) p))
        simp (disch := first | omega | (simp only [evS]; done) | (simp only [len_map, len_drop, he, hwl] <;> omega) | fail) only [ev, evH, List.getElem?_cons_zero, List.getElem?_cons_succ, List.set_cons_zero, List.set_cons_succ]
        rw [List.drop_drop]
        refine hn (j + 1) _ ⟨by omega, ?_⟩ (by omega)
        rw [eat_succ]; rfl
    · have hjj : j = p.length / 64 := by omega
      simp (disch := first | omega | (simp only [evS]; done) | (simp only [len_map, he] <;> omega) | fail) only [ev, evH, List.getElem?_cons_zero, List.getElem?_cons_succ]
      refine cb_i _ _ ⟨_, rfl, he, rfl, rfl⟩ ?_
      have hdl := digest_len he
      simp (disch := first | omega | (simp only [evS]; done) | (simp only [len_map, len_rep, hdl] <;> omega) | fail) only [ev, evH, List.getElem?_cons_zero, List.getElem?_cons_succ, List.set_cons_zero, List.set_cons_succ]
      have hsum : sum s = digest (eat j first p) := by rw [sum, hp, hjj]
      rw [hsum]
      refine fin_ret (vs := [.agg ((digest (eat j first p)).map ofByte)]) ?_ (Weak.agg (map_plain (fun _ => rfl) _) (pre_app _ _))
      exact rvs_c (e_loadAll (by rw [app_get0]; rfl) (by simp [hdl])) (rvs_nil _)
end Go.Sh

/- What the other functions of the package sha come to. -/
namespace Go.Sh
open Go Go.Abs

def dig (n : Nat) : UInt8 := ([48, 49, 50, 51, 52, 53, 54, 55, 56, 57, 97, 98, 99, 100, 101, 102] : List UInt8).getD n 0
/-- A sum's digits. -/
def hex (d : List UInt8) : List UInt8 := (d.map fun b => [dig (b.toNat / 16), dig (b.toNat % 16)]).flatten
/-- What is not yet worked on. -/
def rest (all : List UInt8) : List UInt8 := all.drop (64 * (all.length / 64))
def hcells (all : List UInt8) (rv : AVal) : List AVal := (eat (all.length / 64) first all).map U ++ [rv, .int .i64 all.length]

end Go.Sh

/- What Go functions come to over abstract values, printed by a program (wtext.py). -/
namespace Go.Sh
open Go Go.Abs

end Go.Sh

/- The functions of the package sha: digits, a hasher. -/
namespace Go.Sh
open Go Go.Abs

end Go.Sh

/- The functions of the package sha: a hasher. -/
namespace Go.Sh
open Go Go.Abs

theorem ren_agg {ρ σ : Nat → Nat} {n : Nat} {cs : List AVal} (h : ∀ x ∈ cs, x.plain = true) : Ren ρ σ n (.agg cs) (.agg cs) := by
  simp only [Ren]; exact ⟨cs, rfl, RenL.plain h⟩
theorem renL_cons {ρ σ : Nat → Nat} {n : Nat} {x y : AVal} {xs ys : List AVal} (h : Ren ρ σ n x y) (k : RenL ρ σ n xs ys) : RenL ρ σ n (x :: xs) (y :: ys) := by
  simp only [RenL]; exact ⟨y, ys, rfl, h, k⟩
theorem renL_nil {ρ σ : Nat → Nat} {n : Nat} : RenL ρ σ n [] [] := by simp only [RenL]
end Go.Sh

/- The functions of the package sha: a hasher's sum. -/
namespace Go.Sh
open Go Go.Abs

end Go.Sh

/- The functions of the package sha: a hasher is given bytes. -/
namespace Go.Sh
open Go Go.Abs

end Go.Sh

/- The law of a sum's digits. -/
namespace Go.Sh
open Go Go.Abs

end Go.Sh

/- The law of a text that is added in parts. -/
namespace Go.Sh
open Go Go.Abs

end Go.Sh

/- Functions that leave what was there as it was. -/
namespace Go.Sh
open Go Go.Abs
theorem pre_of_eq {H H' : AHeap} (h : H' = H) : H <+: H' := by rw [h]; exact List.prefix_refl _

theorem sha_Words.quiet {args : List AVal} {H : AHeap} {r : AVal} {H' : AHeap} (h : S_sha_Words args H r H') : H <+: H' := by
  unfold S_sha_Words at h; grind [pre_app, pre_of_eq]
theorem sha_constants.quiet {args : List AVal} {H : AHeap} {r : AVal} {H' : AHeap} (h : S_sha_constants args H r H') : H <+: H' := by
  unfold S_sha_constants at h; grind [pre_app, pre_of_eq]
theorem sha_work.quiet {args : List AVal} {H : AHeap} {r : AVal} {H' : AHeap} (h : S_sha_work args H r H') : H <+: H' := by
  unfold S_sha_work at h; grind [pre_app, pre_of_eq]
theorem sha_tail.quiet {args : List AVal} {H : AHeap} {r : AVal} {H' : AHeap} (h : S_sha_tail args H r H') : H <+: H' := by
  unfold S_sha_tail at h; grind [pre_app, pre_of_eq]
theorem sha_digest.quiet {args : List AVal} {H : AHeap} {r : AVal} {H' : AHeap} (h : S_sha_digest args H r H') : H <+: H' := by
  unfold S_sha_digest at h; grind [pre_app, pre_of_eq]
theorem sha_Sum.quiet {args : List AVal} {H : AHeap} {r : AVal} {H' : AHeap} (h : S_sha_Sum args H r H') : H <+: H' := by
  unfold S_sha_Sum at h; grind [pre_app, pre_of_eq]
end Go.Sh
