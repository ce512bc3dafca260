/- MD5's sum by the program. -/
import Derived.Test.YtejbigoacknfoaaGreatDoorMd5
import Derived.Test.YtejbigoacknfoaaGreatDoorBlk
import Derived.Deep.QuietTactic
import Derived.BigQuiet
import Derived.StillTailTactics
set_option linter.unusedSectionVars false
set_option linter.unusedSimpArgs false
set_option linter.unusedVariables false
namespace Go.Proofs.YtejbigoacknfoaaGreatDoor
open Go Go.RowKit
set_option linter.unusedVariables false
set_option linter.unusedSectionVars false
set_option linter.unusedSimpArgs false
set_option maxRecDepth 100000
def turnA : Array Value := (QMd.turns.map fun (n : Nat) => Value.int .i64 (n : Int)).toArray
def stA (s : QMd.St) : Array Value := #[.int .u32 (s.a : Int), .int .u32 (s.b : Int), .int .u32 (s.c : Int), .int .u32 (s.d : Int)]
theorem rot_bits (x k : Nat) (hx : x < 4294967296) : bits .or .u32 ((x : Int) * 2 ^ k % 4294967296) ((x : Int) / 2 ^ (32 - k)) = (QMd.rotN x k : Nat) := by
  have e1 : (x : Int) * 2 ^ k % 4294967296 = ((x * 2 ^ k % 4294967296 : Nat) : Int) := by simp
  have e2 : (x : Int) / 2 ^ (32 - k) = ((x / 2 ^ (32 - k) : Nat) : Int) := by simp
  rw [e1, e2, u32_or_nat _ _ (Nat.mod_lt _ (by omega)) (Nat.lt_of_le_of_lt (Nat.div_le_self _ _) hx)]
  rfl
theorem rot_any (z : Int) (x k : Nat) (hz : z = (x : Int)) (hx : x < 4294967296) (hk : 4 ≤ k ∧ k ≤ 23) (w : World) : Calls Tryz.prog 117 #[.int .u32 z, .int .i64 (k : Int)] w fun e w' => e = .returned (.int .u32 (QMd.rotN x k : Nat)) ∧ w' = w := by
  subst hz
  obtain ⟨hk0, hk1⟩ := hk
  have hm : bits .and .u64 (k : Int) 31 = (k : Int) := by
    have := u64_and_nat k 31 (by omega) (by omega)
    rw [show (31 : Int) = ((31 : Nat) : Int) from rfl, this, show (31 : Nat) = 2 ^ 5 - 1 from rfl, Nat.and_two_pow_sub_one_eq_mod]
    omega
  have hkI : (k : Int) ≤ 23 := by omega
  go_enter Tryz.func117, Tryz.ntmps117
  go_wp2
  go_ret
  exact ⟨ret_int (rot_bits x k hx), rfl⟩
theorem compl32 (n : Nat) (h : n < 4294967296) : bits .xor .u32 IntKind.u32.max (n : Int) = ((4294967295 - n : Nat) : Int) := by
  have := u32_xor_nat 4294967295 n (by omega) h
  rw [show IntKind.u32.max = ((4294967295 : Nat) : Int) from rfl, this]
  rw [QCrc.compl n h]
theorem mix0_bits (b c d : Nat) (hb : b < 4294967296) (hc : c < 4294967296) (hd : d < 4294967296) :
    bits .or .u32 (bits .and .u32 (b : Int) (c : Int)) (bits .and .u32 (bits .xor .u32 IntKind.u32.max (b : Int)) (d : Int)) = ((d ^^^ (b &&& (c ^^^ d)) : Nat) : Int) := by
  rw [compl32 b hb, u32_and_nat b c hb hc, u32_and_nat _ d (by omega) hd, u32_or_nat _ _ (Nat.and_lt_two_pow _ (n := 32) hc) (Nat.and_lt_two_pow _ (n := 32) hd), QMd.mix0 b c d hb hc hd]
theorem mix2_bits (b c d : Nat) (hb : b < 4294967296) (hc : c < 4294967296) (hd : d < 4294967296) :
    bits .xor .u32 (bits .xor .u32 (b : Int) (c : Int)) (d : Int) = ((b ^^^ c ^^^ d : Nat) : Int) := by
  rw [u32_xor_nat b c hb hc, u32_xor_nat _ d (Nat.xor_lt_two_pow (n := 32) hb hc) hd]
theorem mix3_bits (b c d : Nat) (hb : b < 4294967296) (hc : c < 4294967296) (hd : d < 4294967296) :
    bits .xor .u32 (c : Int) (bits .or .u32 (b : Int) (bits .xor .u32 IntKind.u32.max (d : Int))) = ((c ^^^ (b ||| (4294967295 - d)) : Nat) : Int) := by
  rw [compl32 d hd, u32_or_nat b _ hb (by omega), u32_xor_nat c _ hc (Nat.or_lt_two_pow (n := 32) hb (by omega))]
def wordA (l : List UInt8) (k : Nat) : Array Value := ((QMd.wordL l k).map fun (n : Nat) => Value.int .u32 (n : Int)).toArray
theorem wordA_get (l : List UInt8) (k : Nat) (h : k < 16) : (wordA l k)[k]? = some (.int .u32 0) := by
  simp [wordA, QMd.wordL, List.getElem?_append, List.getElem?_replicate]; omega
theorem wordA_set (l : List UInt8) (k : Nat) (h : k < 16) : (wordA l k).setIfInBounds k (.int .u32 (QMd.wordN l k : Nat)) = wordA l (k + 1) := by
  apply Array.ext
  · simp [wordA, QMd.wordL]; omega
  · intro j h1 h2
    simp [wordA, QMd.wordL] at h1 h2
    have h3 : j < (wordA l k).size := by simp [wordA, QMd.wordL]; omega
    rw [Array.getElem_setIfInBounds h3]
    by_cases hk : k = j
    · subst hk; simp [wordA, QMd.wordL]
    · rw [if_neg hk]
      by_cases hlt : j < k
      · simp [wordA, QMd.wordL, List.getElem_append, hlt, show j < k + 1 by omega]
      · simp [wordA, QMd.wordL, List.getElem_append, hlt, show ¬ j < k + 1 by omega]
theorem wordA_full (l : List UInt8) (k : Nat) (h : k < 16) : (wordA l 16)[k]? = some (.int .u32 (QMd.wordN l k : Nat)) := by
  simp [wordA, QMd.wordL, h]
theorem or_add (a b i : Nat) (h : b < 2 ^ i) : b ||| (a * 2 ^ i) = b + a * 2 ^ i := by
  rw [Nat.or_comm, Nat.mul_comm a, ← Nat.two_pow_add_eq_or_of_lt h, Nat.add_comm]
theorem word_bits (b0 b1 b2 b3 : Nat) (h0 : b0 < 2 ^ 8) (h1 : b1 < 2 ^ 8) (h2 : b2 < 2 ^ 8) (h3 : b3 < 2 ^ 8) :
    bits .or .u32 (bits .or .u32 (bits .or .u32 ((b0 : Int) % 4294967296) ((b1 : Int) % 4294967296 * 256 % 4294967296)) ((b2 : Int) % 4294967296 * 65536 % 4294967296)) ((b3 : Int) % 4294967296 * 16777216 % 4294967296) = ((b0 + b1 * 256 + b2 * 65536 + b3 * 16777216 : Nat) : Int) := by
  rw [show (b0 : Int) % 4294967296 = ((b0 : Nat) : Int) by omega, show (b1 : Int) % 4294967296 * 256 % 4294967296 = ((b1 * 256 : Nat) : Int) by omega, show (b2 : Int) % 4294967296 * 65536 % 4294967296 = ((b2 * 65536 : Nat) : Int) by omega, show (b3 : Int) % 4294967296 * 16777216 % 4294967296 = ((b3 * 16777216 : Nat) : Int) by omega]
  rw [u32_or_nat _ _ (by omega) (by omega), show b0 ||| b1 * 256 = b0 + b1 * 256 from or_add b1 b0 8 h0, u32_or_nat _ _ (by omega) (by omega), show (b0 + b1 * 256) ||| b2 * 65536 = b0 + b1 * 256 + b2 * 65536 from or_add b2 _ 16 (by omega), u32_or_nat _ _ (by omega) (by omega), show (b0 + b1 * 256 + b2 * 65536) ||| b3 * 16777216 = b0 + b1 * 256 + b2 * 65536 + b3 * 16777216 from or_add b3 _ 24 (by omega)]
theorem grown_set {w w' : World} {g : Nat} (h : w.grownBy w' (some g)) (i : Nat) (v : Value) : w.grownBy (w'.setCell ⟨g, i, none⟩ v) (some g) :=
  ⟨h.os, h.tape, h.output, by simpa [World.setCell] using h.size, fun k hk hne => (Below.heap_setCell w' ⟨g, i, none⟩ v k (by intro e; apply hne; simp [e])).trans (h.block k hk hne)⟩
theorem grown_drew {w w' : World} {r : Option Nat} (h : w.grownBy w' r) : w.grownBy w'.drew r := ⟨h.os, h.tape, h.output, h.size, h.block⟩
theorem sineA_get (k : Nat) (h : k < 64) : sineA[k]? = some (.int .u32 (QMd.sineN k : Nat)) := by
  have : ∀ j : Fin 64, sineA[j.val]? = some (.int .u32 (QMd.sineN j.val : Nat)) := by
    intro j
    have hj : j.val < QMd.sines.length := j.isLt
    simp [sineA, sineI, QMd.sineN, List.getD, hj]
  exact this ⟨k, h⟩
theorem turnA_get (k : Nat) (h : k < 64) : turnA[k / 16 * 4 + k % 4]? = some (.int .i64 (QMd.turnN k : Nat)) := by
  have hj : k / 16 * 4 + k % 4 < QMd.turns.length := by show _ < 16; omega
  simp [turnA, QMd.turnN, List.getD, hj]
theorem grown_then {w w1 w2 : World} {r r2 : Option Nat} (h : w.grownBy w1 r) (h2 : w1.grownBy w2 r2) (hr : ∀ g, r2 = some g → r = some g ∨ w.heap.size ≤ g) : w.grownBy w2 r :=
  ⟨h2.os.trans h.os, h2.tape.trans h.tape, h2.output.trans h.output, Nat.le_trans h.size h2.size, fun k hk hne => (h2.block k (Nat.lt_of_lt_of_le hk h.size) (fun e => by
    rcases hr k e.symm with h' | h'
    · exact hne h'.symm
    · omega)).trans (h.block k hk hne)⟩
theorem grown_below {w w' : World} (h : Below w.heap.size w w') (r : Option Nat) : w.grownBy w' r := ⟨h.os, h.tape, h.output, h.size, fun k hk _ => h.block k hk⟩
def addA (s t : QMd.St) (k : Nat) : Array Value := #[.int .u32 (if 0 < k then ((s.a : Int) + t.a) % 4294967296 else s.a), .int .u32 (if 1 < k then ((s.b : Int) + t.b) % 4294967296 else s.b), .int .u32 (if 2 < k then ((s.c : Int) + t.c) % 4294967296 else s.c), .int .u32 (if 3 < k then ((s.d : Int) + t.d) % 4294967296 else s.d)]
theorem addA_full (s t : QMd.St) : addA s t 4 = stA (QMd.addN s t) := by simp [addA, stA, QMd.addN]
def RAdd (s t : QMd.St) (g : Nat) (W : World) (i : Value) (wx : World) : Prop :=
  ∃ k : Nat, k ≤ 4 ∧ i = .int .i64 (k : Nat) ∧ Blk wx g 209 (addA s t k) ∧ W.grownBy wx (some g)
theorem four_new (w : World) (n : Nat) (hn : n < 4294967296) (e : TypeId) : ∀ j (y : UInt8), (QMd.leN n 4)[j]? = some y → (w.alloc (.cells #[.int .u8 ((n : Int) % 256), .int .u8 ((n : Int) / 256 % 256), .int .u8 ((n : Int) / 65536 % 256), .int .u8 ((n : Int) / 16777216)] e)).cell? ((⟨w.heap.size, 0, none⟩ : Addr).add j) = some (.int .u8 (y.toNat : Int)) := by
  intro j y hj
  have hj4 : j < 4 := by
    have := (List.getElem?_eq_some_iff.1 hj).1
    rwa [QMd.leN_len] at this
  have hadd : (⟨w.heap.size, 0, none⟩ : Addr).add j = ⟨w.heap.size, j, none⟩ := by unfold Addr.add; split <;> simp_all
  rw [hadd, cell_of_row _ _ _ _ _ _ (heap_alloc_new _ _)]
  have h4 : j = 0 ∨ j = 1 ∨ j = 2 ∨ j = 3 := by omega
  rcases h4 with rfl | rfl | rfl | rfl <;> (simp [QMd.leN] at hj; subst hj; simp [UInt8.toNat_ofNat'] <;> omega)
def ROutp (L : List UInt8) (w : World) (v i : Value) (wx : World) : Prop :=
  ∃ k : Nat, k ≤ 4 ∧ i = .int .i64 (k : Nat) ∧ OwnB wx w.heap.size 5 v (L.take (4 * k)) ∧ Below w.heap.size w wx
def RMix (M : List UInt8) (st : QMd.St) (W : World) (a b c d i : Value) (wx : World) : Prop :=
  ∃ k : Nat, k ≤ 64 ∧ i = .int .i64 (k : Nat) ∧ a = .int .u32 ((QMd.roundsN M k st).a : Nat) ∧ b = .int .u32 ((QMd.roundsN M k st).b : Nat) ∧ c = .int .u32 ((QMd.roundsN M k st).c : Nat) ∧ d = .int .u32 ((QMd.roundsN M k st).d : Nat) ∧ Below W.heap.size W wx
def ROut (L : List UInt8) (gb cap G : Nat) (w0 : World) (vb : Value) (wr : World) : Prop :=
  ∃ i off : Nat, 64 * i ≤ L.length ∧ (64 * i < L.length → off = 64 * i) ∧ vb = .slice (some ⟨gb, off, none⟩) (L.length - 64 * i) (cap - 64 * i) ∧ Blk wr (G + 2) 209 (stA (QMd.stN 64 L i)) ∧ w0.grownBy wr (some (G + 2))
def RIn (l : List UInt8) (g : Nat) (w0 : World) (i : Value) (wr : World) : Prop :=
  ∃ k : Nat, k ≤ 16 ∧ i = .int .i64 (k : Nat) ∧ Blk wr g 211 (wordA l k) ∧ w0.grownBy wr (some g)
set_option maxHeartbeats 8000000 in
theorem md5_any (l : List UInt8) (w : World) (hl : l.length ≤ 100000) :
    Calls Tryz.prog 67 #[.string (bs l)] w fun e w' => e = .returned (.string (bs (QMd.md5L l))) ∧ Below w.heap.size w w' := by
  have hzv := zero64
  have cs := fun w => hid (sines_any w)
  have cp := fun w => hid (mpadded_any l w hl)
  go_enter Tryz.func67, Tryz.ntmps67
  go_wp2_with first
    | (go_at_call 115; refine (cs _).out.mono ?_; rintro e w1 ⟨rfl, hb1⟩)
    | (refine wpList_store_rowTo rfl 205 _ _ rfl rfl w1.heap.size sineA rfl rfl 205 _ (heap_alloc_new _ _) (by kernel_rfl) (by kernel_rfl) sineAll ?_; rw [World.setRow_alloc_new])
    | (go_at_call 116; refine (cp _).out.mono ?_; rintro e w2 ⟨v, rfl, hown2, hb2⟩)
  have hG : w.heap.size ≤ w1.heap.size := hb1.size
  obtain ⟨W, hW⟩ : ∃ W, W = (((w1.alloc (.cells sineA 205)).alloc (.cells turnA 208)).alloc (.cells (stA QMd.first) 209)) := ⟨_, rfl⟩
  have hWs : W.heap.size = w1.heap.size + 3 := by rw [hW]; simp
  have K3 : Blk W w1.heap.size 205 sineA := by
    rw [hW]
    exact ((Blk.new w1 _ sineA).below ((Below.refl _ _).alloc (Nat.le_refl _) _)).below ((Below.refl _ _).alloc (Nat.le_refl _) _)
  have K4 : Blk W (w1.heap.size + 1) 208 turnA := by
    rw [hW]
    have := (Blk.new (w1.alloc (.cells sineA 205)) 208 turnA).below ((Below.refl _ _).alloc (Nat.le_refl _) (.cells (stA QMd.first) 209))
    rwa [World.size_alloc] at this
  have K5 : Blk W (w1.heap.size + 2) 209 (stA QMd.first) := by
    rw [hW]
    have := Blk.new ((w1.alloc (.cells sineA 205)).alloc (.cells turnA 208)) 209 (stA QMd.first)
    rwa [World.size_alloc, World.size_alloc] at this
  have hbW : Below w.heap.size w W := by
    rw [hW]
    exact (((hb1.alloc hG _).alloc (by simp; omega) _).alloc (by simp; omega) _)
  have hb2' : Below W.heap.size W w2 := by rw [hW]; exact hb2
  have hown2' : OwnB w2 W.heap.size 5 v (QMd.padL l) := by rw [hW]; exact hown2
  clear hb2 hown2 hW
  have hPL := QMd.padL_len l
  have hmd := QMd.md5L_stN l
  generalize QMd.padL l = L at *
  have hL1 : 64 ≤ L.length := by omega
  have hL2 : L.length ≤ 200000 := by omega
  have hL3 : 64 * (L.length / 64) = L.length := by omega
  have HMD := hid hmd; have HPL := hid hPL; clear hmd hPL
  rcases id hown2' with ⟨_, h0⟩ | ⟨gb, cap, cur, fr, rfl, hbg, hgr, _, hlc, hcm, _, _⟩
  · rw [h0] at hL1; simp at hL1
  unfold maxLen at hcm
  have hcell : ∀ j (c : UInt8), L[j]? = some c → w2.cell? ⟨gb, j, none⟩ = some (.int .u8 (c.toNat : Int)) := hown2'.cell.2.2
  have hgb2 : gb < w2.heap.size := (Array.getElem?_eq_some_iff.1 hgr).1
  have K3 := K3.below hb2'; have K4 := K4.below hb2'; have K5 := K5.below hb2'
  have hb0 := hbW.trans (hb2'.mono hbW.size)
  have hs2 := hb2'.size
  rw [hWs] at hbg hs2
  generalize w1.heap.size = G at *
  have HC := hid hcell; have HB0 := hid hb0
  clear hcell hgr hown2' hb2' hbW hb0 cp cs hb1 hzv hWs
  go_loopw [6] (fun vb wr => ROut L gb cap G w2 vb wr) (fun vb _ => lenOf vb)
  case atStart => exact ⟨0, 0, by omega, fun _ => rfl, by simp, K5, ⟨rfl, rfl, rfl, Nat.le_refl _, fun _ _ _ => rfl⟩⟩
  case round =>
    obtain ⟨i, off, hi, hoff, rfl, hS, hgr⟩ := hrel
    have hK3 := K3.only hgr (by omega)
    have hK4 := K4.only hgr (by omega)
    have hsr := hgr.size
    by_cases hlt : 64 * i < L.length
    · obtain rfl := hoff hlt
      clear hoff
      have hz16 : ∀ w, (zeroValue 211).run Tryz.prog w = .ok (.agg (wordA (L.drop (64 * i)) 0)) w := fun w => by kernel_rfl
      have hll : 64 ≤ L.length - 64 * i := by omega
      have hst := QMd.stN_lt 64 L i
      have hsucc : QMd.stN 64 L (i + 1) = QMd.blockN 64 (L.drop (64 * i)) (QMd.stN 64 L i) := rfl
      have HSU := hid hsucc; clear hsucc
      have HC1 := hid (show ∀ j (c : UInt8), (L.drop (64 * i))[j]? = some c → wr.cell? ⟨gb, 64 * i + j, none⟩ = some (.int .u8 (c.toNat : Int)) from fun j c hj => by
        rw [List.getElem?_drop] at hj
        exact hgr.cell (HC.out _ c hj) (by simp; omega))
      have hdl : (L.drop (64 * i)).length = L.length - 64 * i := by simp
      obtain ⟨o, ho⟩ : ∃ o, 64 * i = o := ⟨_, rfl⟩
      obtain ⟨m, hm⟩ : ∃ m, L.length - 64 * i = m := ⟨_, rfl⟩
      obtain ⟨cp, hcp⟩ : ∃ cp, cap - 64 * i = cp := ⟨_, rfl⟩
      have Ho := hid ho; have Hm := hid hm; have Hcp := hid hcp
      rw [hm] at hll
      rw [hm, hcp, ho]
      rw [ho] at HC1
      rw [hm, ho] at hdl
      rw [ho] at HSU hz16
      generalize L.drop o = M at *
      clear ho hm hcp
      generalize QMd.stN 64 L i = st at *
      have hm0 : 0 < m := by omega
      rename World => wo
      go_wp2
      go_loopw [35] (fun i wx => RIn M wo.heap.size (wo.alloc (.cells (wordA M 0) 211)) i wx) (fun i _ => 16 - (intOf i).toNat)
      case atStart => exact ⟨0, by omega, rfl, Blk.new _ _ _, ⟨rfl, rfl, rfl, Nat.le_refl _, fun _ _ _ => rfl⟩⟩
      case round =>
        obtain ⟨k, hk, rfl, hX, hgx⟩ := hrel
        by_cases hlt2 : k < 16
        · have hc : ∀ j, j < 4 → wr.cell? ⟨gb, o + (4 * k + j), none⟩ = some (.int .u8 ((M.getD (4 * k + j) 0).toNat : Int)) := fun j hj => by
            have h1 : M[4 * k + j]? = some (M.getD (4 * k + j) 0) := by
              rw [List.getD, List.getElem?_eq_getElem (by omega)]; rfl
            have h2 := HC1.out _ _ h1
            exact hgx.cell ((((Below.refl _ _).alloc (Nat.le_refl _) _ : Below wo.heap.size wo _).cell (p := ⟨gb, o + (4 * k + j), none⟩) (by simp; omega)).trans h2) (by simp; omega)
          have h0 : wr.cell? ⟨gb, o + 4 * k, none⟩ = some (.int .u8 ((M.getD (4 * k) 0).toNat : Int)) := hc 0 (by omega)
          have h1 := hc 1 (by omega)
          have h2 := hc 2 (by omega)
          have h3 := hc 3 (by omega)
          have b0 := (M.getD (4 * k) 0).toNat_lt
          have b1 := (M.getD (4 * k + 1) 0).toNat_lt
          have b2 := (M.getD (4 * k + 2) 0).toNat_lt
          have b3 := (M.getD (4 * k + 3) 0).toNat_lt
          have i0 : (4 : Int) * (k : Int) < (m : Int) := by omega
          have i1 : (4 : Int) * (k : Int) + 1 < (m : Int) := by omega
          have i2 : (4 : Int) * (k : Int) + 2 < (m : Int) := by omega
          have i3 : (4 : Int) * (k : Int) + 3 < (m : Int) := by omega
          have j0 : (0 : Int) ≤ 4 * (k : Int) := by omega
          have j1 : (0 : Int) ≤ 4 * (k : Int) + 1 := by omega
          have j2 : (0 : Int) ≤ 4 * (k : Int) + 2 := by omega
          have j3 : (0 : Int) ≤ 4 * (k : Int) + 3 := by omega
          have v0 : IntKind.i64.wrap (4 * (k : Int)) = 4 * (k : Int) := by rw [IntKind.wrap_i64]; omega
          have v1 : IntKind.i64.wrap (4 * (k : Int) + 1) = 4 * (k : Int) + 1 := by rw [IntKind.wrap_i64]; omega
          have v2 : IntKind.i64.wrap (4 * (k : Int) + 2) = 4 * (k : Int) + 2 := by rw [IntKind.wrap_i64]; omega
          have v3 : IntKind.i64.wrap (4 * (k : Int) + 3) = 4 * (k : Int) + 3 := by rw [IntKind.wrap_i64]; omega
          have t0 : (4 * (k : Int)).toNat = 4 * k := by omega
          have t1 : (4 * (k : Int) + 1).toNat = 4 * k + 1 := by omega
          have t2 : (4 * (k : Int) + 2).toNat = 4 * k + 2 := by omega
          have t3 : (4 * (k : Int) + 3).toNat = 4 * k + 3 := by omega
          clear hc
          go_wp2
          have x0 := (hX.cell k).trans (wordA_get M k hlt2)
          have x1 := hX.free k
          go_still_tail 35, (by kernel_rfl)
          change wpList _ _ _ _ _ wr.drew
          go_wp2
          go_roundw
          case rel =>
            refine ⟨k + 1, by omega, by go_num, ?_, ?_⟩
            · have hv := word_bits _ _ _ _ b0 b1 b2 b3
              have hX2 := hX.set k (.int .u32 ((QMd.wordN M k : Nat) : Int))
              rw [wordA_set M k hlt2] at hX2
              rw [show QMd.wordN M k = (M.getD (4 * k) 0).toNat + (M.getD (4 * k + 1) 0).toNat * 256 + (M.getD (4 * k + 2) 0).toNat * 65536 + (M.getD (4 * k + 3) 0).toNat * 16777216 from rfl, ← hv] at hX2
              exact hX2
            · exact grown_drew (grown_set hgx k _)
          case measure => simp [intOf]; omega
        · obtain rfl : k = 16 := by omega
          have hlo : wo.heap.size < wr.heap.size := hX.lt
          have S5 : Blk wr (G + 1 + 1) 209 (stA st) := (hS.below ((Below.refl _ _).alloc (Nat.le_refl _) _)).only hgx (by omega)
          have T3 := (hK3.below ((Below.refl _ _).alloc (Nat.le_refl _) (.cells (wordA M 0) 211))).only hgx (by omega)
          have T4 := (hK4.below ((Below.refl _ _).alloc (Nat.le_refl _) (.cells (wordA M 0) 211))).only hgx (by omega)
          have s0 := (S5.cell 0).trans (rfl : _ = some (Value.int .u32 (st.a : Int)))
          have s1 := (S5.cell 1).trans (rfl : _ = some (Value.int .u32 (st.b : Int)))
          have s2 := (S5.cell 2).trans (rfl : _ = some (Value.int .u32 (st.c : Int)))
          have s3 := (S5.cell 3).trans (rfl : _ = some (Value.int .u32 (st.d : Int)))
          go_wp2
          go_quiet (fail)
          go_wp2
          have BQ := below_drewN (Below.refl wr.heap.size wr) nq
          rename World => W4
          go_loopw [9, 10, 11, 12, 82] (fun a b c d i wx => RMix M st W4 a b c d i wx) (fun _ _ _ _ i _ => 64 - (intOf i).toNat)
          case atStart => exact ⟨0, by omega, rfl, rfl, rfl, rfl, rfl, BQ⟩
          case round =>
            obtain ⟨k, hk, rfl, rfl, rfl, rfl, rfl, hbx⟩ := hrel
            have hrl := QMd.roundsN_lt M k st hst
            have hsuc : QMd.roundsN M (k + 1) st = QMd.stepN M k (QMd.roundsN M k st) := rfl
            have HSU2 := hid hsuc; clear hsuc
            clear s0 s1 s2 s3
            by_cases hlt3 : k < 64
            · have X3 : wr.cell? ⟨G, k, none⟩ = some (.int .u32 (QMd.sineN k : Nat)) := ((T3.below hbx).cell k).trans (sineA_get k hlt3)
              have X4 : wr.cell? ⟨G + 1, k / 16 * 4 + k % 4, none⟩ = some (.int .i64 (QMd.turnN k : Nat)) := ((T4.below hbx).cell _).trans (turnA_get k hlt3)
              have X5 : wr.cell? ⟨wo.heap.size, QMd.atN k, none⟩ = some (.int .u32 (QMd.wordN M (QMd.atN k) : Nat)) := ((hX.below hbx).cell _).trans (wordA_full M _ (QMd.at_lt k hlt3))
              have htb := QMd.turn_bd k hlt3
              have hwl := QMd.word_lt M (QMd.atN k)
              have hsl := QMd.sine_lt k
              generalize QMd.roundsN M k st = r at *
              obtain ⟨ra, rb, rc, rd⟩ := r
              obtain ⟨hra, hrb, hrc, hrd⟩ := hrl
              simp only at hra hrb hrc hrd
              by_cases h16 : k < 16
              · have hat : QMd.atN k = k := by unfold QMd.atN; rw [if_pos h16]
                rw [hat] at X5 hwl
                have hg16 : (k : Int) < 16 := by omega
                have hq : (k : Int) / 16 = 0 := by omega
                have hq2 : Int.tdiv (k : Int) 16 = 0 := by rw [Int.tdiv_eq_ediv_of_nonneg (by omega)]; exact hq
                have hmj' : Int.tmod (k : Int) 4 = ((k % 4 : Nat) : Int) := by rw [Int.tmod_eq_emod_of_nonneg (by omega)]; omega
                have hw0 : IntKind.i64.wrap 0 = 0 := rfl
                obtain ⟨j, hj⟩ : ∃ j, j = k % 4 := ⟨_, rfl⟩
                have hj4 : (j : Int) < 4 := by omega
                have hmj : (k : Int) % 4 = (j : Int) := by omega
                rw [← hj] at hmj'
                have hwj : IntKind.i64.wrap (j : Int) = (j : Int) := by rw [IntKind.wrap_i64]; omega
                rw [show k / 16 * 4 + k % 4 = j by omega] at X4
                have hF := mix0_bits rb rc rd hrb hrc hrd
                have hfl := QMd.mix_lt k rb rc rd hrb hrc hrd
                have hfe : QMd.mixN k rb rc rd = rd ^^^ (rb &&& (rc ^^^ rd)) := by unfold QMd.mixN; rw [if_pos h16]
                rw [← hfe] at hF
                have HB : Hid ((QMd.stepN M k ⟨ra, rb, rc, rd⟩).b = (rb + QMd.rotN ((ra + QMd.mixN k rb rc rd + QMd.sineN k + QMd.wordN M (QMd.atN k)) % 4294967296) (QMd.turnN k)) % 4294967296) := hid rfl
                rw [hat] at HB
                clear hfe hj hat
                generalize QMd.mixN k rb rc rd = f at *
                have hsg : IntKind.u32.signed = false := rfl
                have cr := fun (z : Int) (w : World) (x : Nat) (hz : z = (x : Int)) (hx : x < 4294967296) => hid (rot_any z x (QMd.turnN k) hz hx htb w)
                generalize QMd.turnN k = tk at *
                generalize QMd.sineN k = sk at *
                generalize QMd.wordN M k = wk at *
                go_wp2
                go_quiet ((go_at_call 117; refine Calls.quiet_of_same (cr _ _ ((ra + f + sk + wk) % 4294967296) ?_ ?_).out; all_goals omega))
                go_wp2
                go_roundw
                case rel =>
                  refine ⟨k + 1, by omega, by go_num, ?_, ?_, ?_, ?_, below_drewN hbx _⟩
                  · rw [HSU2.out]; rfl
                  · rw [HSU2.out, HB.out]; simp
                  · rw [HSU2.out]; rfl
                  · rw [HSU2.out]; rfl
                case measure => simp [intOf]; omega
              by_cases h32 : k < 32
              · have hat : QMd.atN k = (5 * k + 1) % 16 := by unfold QMd.atN; rw [if_neg h16, if_pos h32]
                obtain ⟨gg, hgg⟩ : ∃ gg, gg = (5 * k + 1) % 16 := ⟨_, rfl⟩
                rw [hat, ← hgg] at X5 hwl
                have hgI : (5 * (k : Int) + 1) % 16 = (gg : Int) := by omega
                have hgJ : Int.tmod ((5 * (k : Int) + 1)) 16 = (gg : Int) := by rw [Int.tmod_eq_emod_of_nonneg (by omega)]; exact hgI
                have hg16 : (gg : Int) < 16 := by omega
                have hq : (k : Int) / 16 = 1 := by omega
                have hq2 : Int.tdiv (k : Int) 16 = 1 := by rw [Int.tdiv_eq_ediv_of_nonneg (by omega)]; exact hq
                have hmj' : Int.tmod (k : Int) 4 = ((k % 4 : Nat) : Int) := by rw [Int.tmod_eq_emod_of_nonneg (by omega)]; omega
                have hw0 : IntKind.i64.wrap 1 = 1 := rfl
                obtain ⟨j, hj⟩ : ∃ j, j = k % 4 := ⟨_, rfl⟩
                have hj4 : (j : Int) < 4 := by omega
                have hmj : (k : Int) % 4 = (j : Int) := by omega
                rw [← hj] at hmj'
                have hwj : IntKind.i64.wrap (j : Int) = (j : Int) := by rw [IntKind.wrap_i64]; omega
                rw [show k / 16 * 4 + k % 4 = 4 + j by omega] at X4
                have hF := mix0_bits rd rb rc hrd hrb hrc
                have hfl := QMd.mix_lt k rb rc rd hrb hrc hrd
                have hfe : QMd.mixN k rb rc rd = rc ^^^ (rd &&& (rb ^^^ rc)) := by unfold QMd.mixN; rw [if_neg h16, if_pos h32]
                rw [← hfe] at hF
                have HB : Hid ((QMd.stepN M k ⟨ra, rb, rc, rd⟩).b = (rb + QMd.rotN ((ra + QMd.mixN k rb rc rd + QMd.sineN k + QMd.wordN M (QMd.atN k)) % 4294967296) (QMd.turnN k)) % 4294967296) := hid rfl
                rw [hat, ← hgg] at HB
                clear hfe hj hat hgg
                generalize QMd.mixN k rb rc rd = f at *
                have hsg : IntKind.u32.signed = false := rfl
                have cr := fun (z : Int) (w : World) (x : Nat) (hz : z = (x : Int)) (hx : x < 4294967296) => hid (rot_any z x (QMd.turnN k) hz hx htb w)
                generalize QMd.turnN k = tk at *
                generalize QMd.sineN k = sk at *
                generalize QMd.wordN M gg = wk at *
                go_wp2
                go_quiet ((go_at_call 117; refine Calls.quiet_of_same (cr _ _ ((ra + f + sk + wk) % 4294967296) ?_ ?_).out; all_goals omega))
                go_wp2
                go_roundw
                case rel =>
                  refine ⟨k + 1, by omega, by go_num, ?_, ?_, ?_, ?_, below_drewN hbx _⟩
                  · rw [HSU2.out]; rfl
                  · rw [HSU2.out, HB.out]; simp
                  · rw [HSU2.out]; rfl
                  · rw [HSU2.out]; rfl
                case measure => simp [intOf]; omega
              by_cases h48 : k < 48
              · have hat : QMd.atN k = (3 * k + 5) % 16 := by unfold QMd.atN; rw [if_neg h16, if_neg h32, if_pos h48]
                obtain ⟨gg, hgg⟩ : ∃ gg, gg = (3 * k + 5) % 16 := ⟨_, rfl⟩
                rw [hat, ← hgg] at X5 hwl
                have hgI : (3 * (k : Int) + 5) % 16 = (gg : Int) := by omega
                have hgJ : Int.tmod ((3 * (k : Int) + 5)) 16 = (gg : Int) := by rw [Int.tmod_eq_emod_of_nonneg (by omega)]; exact hgI
                have hg16 : (gg : Int) < 16 := by omega
                have hq : (k : Int) / 16 = 2 := by omega
                have hq2 : Int.tdiv (k : Int) 16 = 2 := by rw [Int.tdiv_eq_ediv_of_nonneg (by omega)]; exact hq
                have hmj' : Int.tmod (k : Int) 4 = ((k % 4 : Nat) : Int) := by rw [Int.tmod_eq_emod_of_nonneg (by omega)]; omega
                have hw0 : IntKind.i64.wrap 2 = 2 := rfl
                obtain ⟨j, hj⟩ : ∃ j, j = k % 4 := ⟨_, rfl⟩
                have hj4 : (j : Int) < 4 := by omega
                have hmj : (k : Int) % 4 = (j : Int) := by omega
                rw [← hj] at hmj'
                have hwj : IntKind.i64.wrap (j : Int) = (j : Int) := by rw [IntKind.wrap_i64]; omega
                rw [show k / 16 * 4 + k % 4 = 8 + j by omega] at X4
                have hF := mix2_bits rb rc rd hrb hrc hrd
                have hfl := QMd.mix_lt k rb rc rd hrb hrc hrd
                have hfe : QMd.mixN k rb rc rd = rb ^^^ rc ^^^ rd := by unfold QMd.mixN; rw [if_neg h16, if_neg h32, if_pos h48]
                rw [← hfe] at hF
                have HB : Hid ((QMd.stepN M k ⟨ra, rb, rc, rd⟩).b = (rb + QMd.rotN ((ra + QMd.mixN k rb rc rd + QMd.sineN k + QMd.wordN M (QMd.atN k)) % 4294967296) (QMd.turnN k)) % 4294967296) := hid rfl
                rw [hat, ← hgg] at HB
                clear hfe hj hat hgg
                generalize QMd.mixN k rb rc rd = f at *
                have hsg : IntKind.u32.signed = false := rfl
                have cr := fun (z : Int) (w : World) (x : Nat) (hz : z = (x : Int)) (hx : x < 4294967296) => hid (rot_any z x (QMd.turnN k) hz hx htb w)
                generalize QMd.turnN k = tk at *
                generalize QMd.sineN k = sk at *
                generalize QMd.wordN M gg = wk at *
                go_wp2
                go_quiet ((go_at_call 117; refine Calls.quiet_of_same (cr _ _ ((ra + f + sk + wk) % 4294967296) ?_ ?_).out; all_goals omega))
                go_wp2
                go_roundw
                case rel =>
                  refine ⟨k + 1, by omega, by go_num, ?_, ?_, ?_, ?_, below_drewN hbx _⟩
                  · rw [HSU2.out]; rfl
                  · rw [HSU2.out, HB.out]; simp
                  · rw [HSU2.out]; rfl
                  · rw [HSU2.out]; rfl
                case measure => simp [intOf]; omega
              have hat : QMd.atN k = 7 * k % 16 := by unfold QMd.atN; rw [if_neg h16, if_neg h32, if_neg h48]
              obtain ⟨gg, hgg⟩ : ∃ gg, gg = 7 * k % 16 := ⟨_, rfl⟩
              rw [hat, ← hgg] at X5 hwl
              have hgI : 7 * (k : Int) % 16 = (gg : Int) := by omega
              have hgJ : Int.tmod (7 * (k : Int)) 16 = (gg : Int) := by rw [Int.tmod_eq_emod_of_nonneg (by omega)]; exact hgI
              have hg16 : (gg : Int) < 16 := by omega
              have hq : (k : Int) / 16 = 3 := by omega
              have hq2 : Int.tdiv (k : Int) 16 = 3 := by rw [Int.tdiv_eq_ediv_of_nonneg (by omega)]; exact hq
              have hmj' : Int.tmod (k : Int) 4 = ((k % 4 : Nat) : Int) := by rw [Int.tmod_eq_emod_of_nonneg (by omega)]; omega
              have hw0 : IntKind.i64.wrap 3 = 3 := rfl
              obtain ⟨j, hj⟩ : ∃ j, j = k % 4 := ⟨_, rfl⟩
              have hj4 : (j : Int) < 4 := by omega
              have hmj : (k : Int) % 4 = (j : Int) := by omega
              rw [← hj] at hmj'
              have hwj : IntKind.i64.wrap (j : Int) = (j : Int) := by rw [IntKind.wrap_i64]; omega
              rw [show k / 16 * 4 + k % 4 = 12 + j by omega] at X4
              have hF := mix3_bits rb rc rd hrb hrc hrd
              have hfl := QMd.mix_lt k rb rc rd hrb hrc hrd
              have hfe : QMd.mixN k rb rc rd = rc ^^^ (rb ||| (4294967295 - rd)) := by unfold QMd.mixN; rw [if_neg h16, if_neg h32, if_neg h48]
              rw [← hfe] at hF
              have HB : Hid ((QMd.stepN M k ⟨ra, rb, rc, rd⟩).b = (rb + QMd.rotN ((ra + QMd.mixN k rb rc rd + QMd.sineN k + QMd.wordN M (QMd.atN k)) % 4294967296) (QMd.turnN k)) % 4294967296) := hid rfl
              rw [hat, ← hgg] at HB
              clear hfe hj hat hgg
              generalize QMd.mixN k rb rc rd = f at *
              have hsg : IntKind.u32.signed = false := rfl
              have cr := fun (z : Int) (w : World) (x : Nat) (hz : z = (x : Int)) (hx : x < 4294967296) => hid (rot_any z x (QMd.turnN k) hz hx htb w)
              generalize QMd.turnN k = tk at *
              generalize QMd.sineN k = sk at *
              generalize QMd.wordN M gg = wk at *
              go_wp2
              go_quiet ((go_at_call 117; refine Calls.quiet_of_same (cr _ _ ((ra + f + sk + wk) % 4294967296) ?_ ?_).out; all_goals omega))
              go_wp2
              go_roundw
              case rel =>
                refine ⟨k + 1, by omega, by go_num, ?_, ?_, ?_, ?_, below_drewN hbx _⟩
                · rw [HSU2.out]; rfl
                · rw [HSU2.out, HB.out]; simp
                · rw [HSU2.out]; rfl
                · rw [HSU2.out]; rfl
              case measure => simp [intOf]; omega
            · obtain rfl : k = 64 := by omega
              have B5 := S5.below hbx
              have hGW : w2.grownBy wr (some (G + 2)) := by
                refine grown_then (grown_then hgr (grown_then (World.grownBy_alloc wo (.cells (wordA M 0) 211) (some wo.heap.size)) hgx ?_) ?_) (grown_below hbx none) ?_
                · intro g hg; exact .inl hg
                · intro g hg; cases hg; exact .inr hsr
                · intro g hg; cases hg
              have hblk : QMd.blockN 64 M st = QMd.addN st (QMd.roundsN M 64 st) := rfl
              rw [hblk] at HSU
              have HBK := hid hGW; clear hGW hblk T3 T4 S5 hX hgx hbx BQ HSU2
              generalize QMd.roundsN M 64 st = r at *
              obtain ⟨ra, rb, rc, rd⟩ := r
              obtain ⟨hra, hrb, hrc, hrd⟩ := hrl
              obtain ⟨sa, sb, sc, sd⟩ := st
              obtain ⟨hsa, hsb, hsc, hsd⟩ := hst
              simp only at hra hrb hrc hrd hsa hsb hsc hsd
              have i0 : ∀ w, (Instr.index 209 (.agg #[.int .u32 (ra : Int), .int .u32 (rb : Int), .int .u32 (rc : Int), .int .u32 (rd : Int)]) (.int .i64 0)).run Tryz.prog w = .ok (.int .u32 (ra : Int)) w := fun _ => by kernel_rfl
              have i1 : ∀ w, (Instr.index 209 (.agg #[.int .u32 (ra : Int), .int .u32 (rb : Int), .int .u32 (rc : Int), .int .u32 (rd : Int)]) (.int .i64 1)).run Tryz.prog w = .ok (.int .u32 (rb : Int)) w := fun _ => by kernel_rfl
              have i2 : ∀ w, (Instr.index 209 (.agg #[.int .u32 (ra : Int), .int .u32 (rb : Int), .int .u32 (rc : Int), .int .u32 (rd : Int)]) (.int .i64 2)).run Tryz.prog w = .ok (.int .u32 (rc : Int)) w := fun _ => by kernel_rfl
              have i3 : ∀ w, (Instr.index 209 (.agg #[.int .u32 (ra : Int), .int .u32 (rb : Int), .int .u32 (rc : Int), .int .u32 (rd : Int)]) (.int .i64 3)).run Tryz.prog w = .ok (.int .u32 (rd : Int)) w := fun _ => by kernel_rfl
              go_wp2
              rename World => W5
              go_loopw [162] (fun i wx => RAdd ⟨sa, sb, sc, sd⟩ ⟨ra, rb, rc, rd⟩ (G + 1 + 1) W5 i wx) (fun i _ => 4 - (intOf i).toNat)
              case atStart => exact ⟨0, by omega, rfl, B5, ⟨rfl, rfl, rfl, Nat.le_refl _, fun _ _ _ => rfl⟩⟩
              case round =>
                obtain ⟨k, hk, hiv, hA, hga⟩ := hrel
                have hk5 : k = 0 ∨ k = 1 ∨ k = 2 ∨ k = 3 ∨ k = 4 := by omega
                rcases hk5 with rfl | rfl | rfl | rfl | rfl
                · have hiv := hiv.trans (rfl : _ = Value.int .i64 0)
                  subst hiv
                  have a0 := (hA.cell 0).trans (rfl : _ = some (Value.int .u32 (sa : Int)))
                  have f0 := hA.free 0
                  go_wp2
                  go_roundw
                  case rel => exact ⟨1, by omega, by go_num, hA.set 0 _, grown_set hga 0 _⟩
                  case measure => simp [intOf]
                · have hiv := hiv.trans (rfl : _ = Value.int .i64 1)
                  subst hiv
                  have a1 := (hA.cell 1).trans (rfl : _ = some (Value.int .u32 (sb : Int)))
                  have f1 := hA.free 1
                  go_wp2
                  go_roundw
                  case rel => exact ⟨2, by omega, by go_num, hA.set 1 _, grown_set hga 1 _⟩
                  case measure => simp [intOf]
                · have hiv := hiv.trans (rfl : _ = Value.int .i64 2)
                  subst hiv
                  have a2 := (hA.cell 2).trans (rfl : _ = some (Value.int .u32 (sc : Int)))
                  have f2 := hA.free 2
                  go_wp2
                  go_roundw
                  case rel => exact ⟨3, by omega, by go_num, hA.set 2 _, grown_set hga 2 _⟩
                  case measure => simp [intOf]
                · have hiv := hiv.trans (rfl : _ = Value.int .i64 3)
                  subst hiv
                  have a3 := (hA.cell 3).trans (rfl : _ = some (Value.int .u32 (sd : Int)))
                  have f3 := hA.free 3
                  go_wp2
                  go_roundw
                  case rel => exact ⟨4, by omega, by go_num, hA.set 3 _, grown_set hga 3 _⟩
                  case measure => simp [intOf]
                · have hiv := hiv.trans (rfl : _ = Value.int .i64 4)
                  subst hiv
                  clear i0 i1 i2 i3
                  rw [addA_full, ← HSU.out] at hA
                  have hgf := grown_then HBK.out hga (fun g hg => by cases hg; exact .inl rfl)
                  have hoI := Ho.out
                  have hmI := Hm.out
                  have hcI := Hcp.out
                  have hcm64 : m ≤ cp := by omega
                  clear Ho Hm Hcp
                  by_cases hc64 : cp = 64
                  · go_wp2
                    go_roundw
                    case rel => exact ⟨i + 1, o, by omega, fun h => by omega, by congr 1 <;> omega, hA, hgf⟩
                    case measure => simp [lenOf]; omega
                  · go_wp2
                    go_roundw
                    case rel => exact ⟨i + 1, o + 64, by omega, fun h => by omega, by congr 1 <;> omega, hA, hgf⟩
                    case measure => simp [lenOf]; omega
    · have hiL : i = L.length / 64 := by omega
      subst hiL
      have hlen0 : L.length - 64 * (L.length / 64) = 0 := by omega
      rw [hlen0, hL3]
      have hst := QMd.stN_lt 64 L (L.length / 64)
      generalize QMd.stN 64 L (L.length / 64) = st at *
      obtain ⟨sa, sb, sc, sd⟩ := st
      obtain ⟨hsa, hsb, hsc, hsd⟩ := hst
      simp only at hsa hsb hsc hsd
      have s0 := (hS.cell 0).trans (rfl : _ = some (Value.int .u32 (sa : Int)))
      have s1 := (hS.cell 1).trans (rfl : _ = some (Value.int .u32 (sb : Int)))
      have s2 := (hS.cell 2).trans (rfl : _ = some (Value.int .u32 (sc : Int)))
      have s3 := (hS.cell 3).trans (rfl : _ = some (Value.int .u32 (sd : Int)))
      have hBw : Below w.heap.size w wr := HB0.out.grown hgr (by omega) (fun k hk => by cases hk; omega)
      have i0 : ∀ w, (Instr.index 209 (.agg #[.int .u32 (sa : Int), .int .u32 (sb : Int), .int .u32 (sc : Int), .int .u32 (sd : Int)]) (.int .i64 0)).run Tryz.prog w = .ok (.int .u32 (sa : Int)) w := fun _ => by kernel_rfl
      have i1 : ∀ w, (Instr.index 209 (.agg #[.int .u32 (sa : Int), .int .u32 (sb : Int), .int .u32 (sc : Int), .int .u32 (sd : Int)]) (.int .i64 1)).run Tryz.prog w = .ok (.int .u32 (sb : Int)) w := fun _ => by kernel_rfl
      have i2 : ∀ w, (Instr.index 209 (.agg #[.int .u32 (sa : Int), .int .u32 (sb : Int), .int .u32 (sc : Int), .int .u32 (sd : Int)]) (.int .i64 2)).run Tryz.prog w = .ok (.int .u32 (sc : Int)) w := fun _ => by kernel_rfl
      have i3 : ∀ w, (Instr.index 209 (.agg #[.int .u32 (sa : Int), .int .u32 (sb : Int), .int .u32 (sc : Int), .int .u32 (sd : Int)]) (.int .i64 3)).run Tryz.prog w = .ok (.int .u32 (sd : Int)) w := fun _ => by kernel_rfl
      go_wp2
      go_loopw [18, 174] (fun v i wx => ROutp (QMd.outL ⟨sa, sb, sc, sd⟩) w v i wx) (fun _ i _ => 4 - (intOf i).toNat)
      case atStart => exact ⟨0, by omega, rfl, ownB_nil _ _ _, hBw⟩
      case round =>
        clear hS hgr hK3 hK4 hBw s0 s1 s2 s3 hsr
        obtain ⟨k, hk, hiv, hown, hb⟩ := hrel
        have hB := hb.size
        obtain ⟨va, vc, hv⟩ := hown.form
        have hk5 : k = 0 ∨ k = 1 ∨ k = 2 ∨ k = 3 ∨ k = 4 := by omega
        rcases hk5 with rfl | rfl | rfl | rfl | rfl
        · have hiv := hiv.trans (rfl : _ = Value.int .i64 0)
          subst hiv
          have hv := hv.trans (rfl : _ = Value.slice va 0 vc)
          subst hv
          have HO := hid hown; clear hown
          go_wp2_with (at_builtin; refine list_append_ownB rfl (.tmp 177) (.tmp 189) 120 rfl w.heap.size 5 Tryz.underlying120 infoU8 _ _ rfl (HO.out.alloc _) ⟨wr.heap.size, 0, none⟩ 4 4 (QMd.leN sa 4) rfl rfl (four_new wr sa hsa _) ?_ (by simp; omega) ?_; (exact (by decide : 0 + 4 ≤ 140737488355328)); intro v3 w3 hown3 hgrow3; obtain ⟨a3, c3, h3⟩ := hown3.form)
          have H3 := hid hown3; clear hown3
          subst h3
          go_roundw
          case rel => exact ⟨1, by omega, by go_num, H3.out, below_appendB (hb.alloc hB _) (HO.out.alloc _) hgrow3 (by simp; omega)⟩
          case measure => simp [intOf]
        · have hiv := hiv.trans (rfl : _ = Value.int .i64 1)
          subst hiv
          have hv := hv.trans (rfl : _ = Value.slice va 4 vc)
          subst hv
          have HO := hid hown; clear hown
          go_wp2_with (at_builtin; refine list_append_ownB rfl (.tmp 177) (.tmp 189) 120 rfl w.heap.size 5 Tryz.underlying120 infoU8 _ _ rfl (HO.out.alloc _) ⟨wr.heap.size, 0, none⟩ 4 4 (QMd.leN sb 4) rfl rfl (four_new wr sb hsb _) ?_ (by simp; omega) ?_; (exact (by decide : 4 + 4 ≤ 140737488355328)); intro v3 w3 hown3 hgrow3; obtain ⟨a3, c3, h3⟩ := hown3.form)
          have H3 := hid hown3; clear hown3
          subst h3
          go_roundw
          case rel => exact ⟨2, by omega, by go_num, H3.out, below_appendB (hb.alloc hB _) (HO.out.alloc _) hgrow3 (by simp; omega)⟩
          case measure => simp [intOf]
        · have hiv := hiv.trans (rfl : _ = Value.int .i64 2)
          subst hiv
          have hv := hv.trans (rfl : _ = Value.slice va 8 vc)
          subst hv
          have HO := hid hown; clear hown
          go_wp2_with (at_builtin; refine list_append_ownB rfl (.tmp 177) (.tmp 189) 120 rfl w.heap.size 5 Tryz.underlying120 infoU8 _ _ rfl (HO.out.alloc _) ⟨wr.heap.size, 0, none⟩ 4 4 (QMd.leN sc 4) rfl rfl (four_new wr sc hsc _) ?_ (by simp; omega) ?_; (exact (by decide : 8 + 4 ≤ 140737488355328)); intro v3 w3 hown3 hgrow3; obtain ⟨a3, c3, h3⟩ := hown3.form)
          have H3 := hid hown3; clear hown3
          subst h3
          go_roundw
          case rel => exact ⟨3, by omega, by go_num, H3.out, below_appendB (hb.alloc hB _) (HO.out.alloc _) hgrow3 (by simp; omega)⟩
          case measure => simp [intOf]
        · have hiv := hiv.trans (rfl : _ = Value.int .i64 3)
          subst hiv
          have hv := hv.trans (rfl : _ = Value.slice va 12 vc)
          subst hv
          have HO := hid hown; clear hown
          go_wp2_with (at_builtin; refine list_append_ownB rfl (.tmp 177) (.tmp 189) 120 rfl w.heap.size 5 Tryz.underlying120 infoU8 _ _ rfl (HO.out.alloc _) ⟨wr.heap.size, 0, none⟩ 4 4 (QMd.leN sd 4) rfl rfl (four_new wr sd hsd _) ?_ (by simp; omega) ?_; (exact (by decide : 12 + 4 ≤ 140737488355328)); intro v3 w3 hown3 hgrow3; obtain ⟨a3, c3, h3⟩ := hown3.form)
          have H3 := hid hown3; clear hown3
          subst h3
          go_roundw
          case rel => exact ⟨4, by omega, by go_num, H3.out, below_appendB (hb.alloc hB _) (HO.out.alloc _) hgrow3 (by simp; omega)⟩
          case measure => simp [intOf]
        · have hiv := hiv.trans (rfl : _ = Value.int .i64 4)
          subst hiv
          have hv := hv.trans (rfl : _ = Value.slice va 16 vc)
          subst hv
          have hcb := conv_back (P := Tryz.prog) 120 9 5 Tryz.underlying120 Tryz.underlying5 Tryz.underlying9 wr w.heap.size _ _ hown (by simp [QMd.outL, QMd.leN])
          rw [show (QMd.outL ⟨sa, sb, sc, sd⟩).take (4 * 4) = QMd.outL ⟨sa, sb, sc, sd⟩ from rfl] at hcb
          clear hown
          go_wp2
          go_ret
          rw [HMD.out]
          exact ⟨rfl, hb⟩
end Go.Proofs.YtejbigoacknfoaaGreatDoor
