/- MD5 by the document. -/
import Derived.Test.YtejbigoacknfoaaGreatDoorMd5B
import Derived.Test.YtejbigoacknfoaaGreatDoorTurnM
import Derived.Test.YtejbigoacknfoaaGreatDoorSine
set_option linter.unusedSectionVars false
set_option linter.unusedSimpArgs false
set_option linter.unusedVariables false
namespace Go.Proofs.YtejbigoacknfoaaGreatDoor
open Go Go.RowKit
set_option linter.unusedVariables false
set_option linter.unusedSectionVars false
set_option linter.unusedSimpArgs false
set_option maxRecDepth 100000
theorem rix0_bits (b c d : Nat) (hb : b < 4294967296) (hc : c < 4294967296) (hd : d < 4294967296) :
    bits .xor .u32 (d : Int) (bits .and .u32 (b : Int) (bits .xor .u32 (c : Int) (d : Int))) = ((d ^^^ (b &&& (c ^^^ d)) : Nat) : Int) := by
  have h1 : c ^^^ d < 4294967296 := Nat.xor_lt_two_pow (n := 32) hc hd
  rw [u32_xor_nat c d hc hd, u32_and_nat b _ hb h1, u32_xor_nat d _ hd (Nat.and_lt_two_pow _ (n := 32) h1)]
theorem rix3_bits (b c d : Nat) (hb : b < 4294967296) (hc : c < 4294967296) (hd : d < 4294967296) :
    bits .xor .u32 (c : Int) (bits .or .u32 (b : Int) (bits .xor .u32 4294967295 (d : Int))) = ((c ^^^ (b ||| (4294967295 - d)) : Nat) : Int) := mix3_bits b c d hb hc hd
def RPadR2 (l : List UInt8) (w : World) (n v i : Value) (wr : World) : Prop :=
  ∃ k : Nat, k ≤ 8 ∧ i = .int .i64 (k : Nat) ∧ n = .int .u64 (8 * l.length / 256 ^ k : Nat) ∧ OwnB wr w.heap.size 5 v (l ++ [128] ++ List.replicate (QMd.zerosN l.length) 0 ++ QMd.leN (8 * l.length) k) ∧ Below w.heap.size w wr
def ROutR (L : List UInt8) (gb cap gh : Nat) (w0 : World) (vb : Value) (wr : World) : Prop :=
  ∃ i off : Nat, 64 * i ≤ L.length ∧ (64 * i < L.length → off = 64 * i) ∧ vb = .slice (some ⟨gb, off, none⟩) (L.length - 64 * i) (cap - 64 * i) ∧ Blk wr gh 201 (stA (QMd.stN 64 L i)) ∧ w0.grownBy wr (some gh)
def RAddR (s t : QMd.St) (g : Nat) (W : World) (i : Value) (wx : World) : Prop :=
  ∃ k : Nat, k ≤ 4 ∧ i = .int .i64 (k : Nat) ∧ Blk wx g 201 (addA s t k) ∧ W.grownBy wx (some g)
theorem low_byte (n : Nat) : ((n : Int) % 256) = ((UInt8.ofNat n).toNat : Int) := by
  rw [UInt8.toNat_ofNat']; simp
theorem byte_mod (x : Nat) : byteOf ((x : Int) % 256) = UInt8.ofNat x := by
  unfold byteOf
  rw [show ((x : Int) % 256).toNat = x % 256 by omega]
  apply UInt8.toNat_inj.1
  simp [UInt8.toNat_ofNat']
def ROutS (L : List UInt8) (W : World) (o i : Value) (wx : World) : Prop :=
  ∃ k : Nat, k ≤ 4 ∧ i = .int .i64 (k : Nat) ∧ o = .string (bs (L.take (4 * k))) ∧ Below W.heap.size W wx
def RByte (pre : List UInt8) (n : Nat) (W : World) (o x i : Value) (wx : World) : Prop :=
  ∃ j : Nat, j ≤ 4 ∧ i = .int .i64 (j : Nat) ∧ x = .int .u32 (n / 256 ^ j : Nat) ∧ o = .string (bs (pre ++ QMd.leN n j)) ∧ Below W.heap.size W wx
set_option maxHeartbeats 16000000 in
theorem rmd5_any (l : List UInt8) (w : World) (hl : l.length ≤ 100000) :
    Calls Tryz.prog 66 #[.string (bs l)] w fun e w' => e = .returned (.string (bs (QMd.md5L l))) ∧ Below w.heap.size w w' := by
  obtain ⟨c, w1, hcv, hown, hb1, hs1⟩ := conv_own (P := Tryz.prog) 9 120 5 Tryz.underlying9 Tryz.underlying120 Tryz.underlying5 l (by omega) w
  have HO := hid hown; have HB := hid hb1; have HS := hid hs1; have hsz1 := hb1.size; clear hown hb1 hs1
  have hl8 : l.length * 8 ≤ 1000000 := by omega
  go_enter Tryz.func66, Tryz.ntmps66
  go_wp2_with (at_builtin; refine list_append_ownB rfl (.tmp 27) (.tmp 28) 120 rfl w.heap.size 5 Tryz.underlying120 infoU8 _ l rfl (HO.out.alloc _) ⟨w1.heap.size, 0, none⟩ 1 1 [128] rfl rfl (one_new w1 128 _) (by simp; omega) (by simp; omega) ?_; intro v2 w2 hown2 hgrow2)
  have b2 := below_appendB (HB.out.alloc hsz1 _) (HO.out.alloc _) hgrow2 (by simp; omega)
  have hZ : ∀ k : Nat, k < QMd.zerosN l.length → ((((l.length : Int) + 1 + (k : Int)) % 64) != 56) = true := by
    intro k hk
    unfold QMd.zerosN at hk
    simp; omega
  have hZ2 : ((((l.length : Int) + 1 + (QMd.zerosN l.length : Int)) % 64) != 56) = false := by
    unfold QMd.zerosN
    simp; omega
  have hz64 : QMd.zerosN l.length < 64 := by unfold QMd.zerosN; omega
  have HZ := hid hZ; have HZ2 := hid hZ2; clear hZ hZ2
  go_loopw [4] (fun v wr => RPad1 l w v wr) (fun v _ => QMd.zerosN l.length + l.length + 2 - lenOf v)
  case atStart => exact ⟨0, by omega, by simpa using hown2, b2⟩
  case round =>
    obtain ⟨k, hk, hown, hb⟩ := hrel
    have hB := hb.size
    obtain ⟨va, vc, hv⟩ := hown.form
    have e1 : (l ++ [128] ++ List.replicate k (0 : UInt8)).length = l.length + 1 + k := by simp; omega
    rw [e1] at hv
    clear e1
    subst hv
    by_cases hlt : k < QMd.zerosN l.length
    · have ht := HZ.out k hlt
      have HO := hid hown; clear hown
      go_wp2_with (at_builtin; refine list_append_ownB rfl (.tmp 34) (.tmp 35) 120 rfl w.heap.size 5 Tryz.underlying120 infoU8 _ (l ++ [128] ++ List.replicate k 0) rfl (HO.out.alloc _) ⟨wr.heap.size, 0, none⟩ 1 1 [0] rfl rfl (one_new wr 0 _) (by simp; omega) (by simp; omega) ?_; intro v3 w3 hown3 hgrow3; obtain ⟨a3, c3, h3⟩ := hown3.form)
      have H3 := hid hown3; clear hown3
      subst h3
      go_roundw
      case rel => exact ⟨k + 1, by omega, by rw [List.replicate_succ', ← List.append_assoc]; exact H3.out.len (by simp), below_appendB (hb.alloc hB _) (HO.out.alloc _) hgrow3 (by simp; omega)⟩
      case measure => simp [lenOf]; omega
    · obtain rfl : k = QMd.zerosN l.length := by omega
      have ht := HZ2.out
      have HO := hid hown; clear hown
      go_wp2
      go_loopw [3, 4, 37] (fun n v i wr => RPadR2 l w n v i wr) (fun _ _ i _ => 8 - (intOf i).toNat)
      case atStart => exact ⟨0, by omega, rfl, by simp; omega, by rw [QMd.leN, List.append_nil]; exact HO.out, hb⟩
      case round =>
        clear hB hb HO ht
        obtain ⟨k, hk, rfl, rfl, hown, hb⟩ := hrel
        have hB := hb.size
        have hd8 : 8 * l.length / 256 ^ k ≤ 8 * l.length := Nat.div_le_self _ _
        have hsn := hid (QMd.leN_snoc (8 * l.length) k)
        have hdv := hid (show 8 * l.length / 256 ^ (k + 1) = 8 * l.length / 256 ^ k / 256 by rw [Nat.pow_succ, Nat.div_div_eq_div_mul])
        by_cases hlt : k < 8
        · obtain ⟨va, vc, hv⟩ := hown.form
          have e1 : (l ++ [128] ++ List.replicate (QMd.zerosN l.length) (0 : UInt8) ++ QMd.leN (8 * l.length) k).length = l.length + 1 + QMd.zerosN l.length + k := by simp [QMd.leN_len]; omega
          rw [e1] at hv
          clear e1
          subst hv
          have HO := hid hown; clear hown
          generalize 8 * l.length / 256 ^ k = q at *
          have HBY := hid (low_byte q)
          go_wp2_with (at_builtin; refine list_append_ownB rfl (.tmp 39) (.tmp 43) 120 rfl w.heap.size 5 Tryz.underlying120 infoU8 _ _ rfl (HO.out.alloc _) ⟨wr.heap.size, 0, none⟩ 1 1 [UInt8.ofNat q] rfl rfl (one_new' wr _ _ _ HBY.out) (by simp [QMd.leN_len]; omega) (by simp; omega) ?_; intro v3 w3 hown3 hgrow3; obtain ⟨a3, c3, h3⟩ := hown3.form)
          have H3 := hid hown3; clear hown3
          subst h3
          go_roundw
          case rel => exact ⟨k + 1, by omega, by go_num, by rw [hdv.out]; go_num, by rw [hsn.out, ← List.append_assoc]; exact H3.out.len (by simp [QMd.leN_len]), below_appendB (hb.alloc hB _) (HO.out.alloc _) hgrow3 (by simp; omega)⟩
          case measure => simp [intOf]; omega
        · obtain rfl : k = 8 := by omega
          try rw [show ((8 : Nat) : Int) = 8 from rfl]
          rename World => wp
          rw [show l ++ [128] ++ List.replicate (QMd.zerosN l.length) (0 : UInt8) ++ QMd.leN (8 * l.length) 8 = QMd.padL l from rfl] at hown
          have hPL := QMd.padL_len l
          have hmd := QMd.md5L_stN l
          clear hsn hdv HZ HZ2 b2 hown2 hgrow2 HO HB HS hz64
          generalize QMd.padL l = L at *
          have hL1 : 64 ≤ L.length := by omega
          have hL2 : L.length ≤ 200000 := by omega
          have hL3 : 64 * (L.length / 64) = L.length := by omega
          have HMD := hid hmd; have HPL := hid hPL; clear hmd hPL
          generalize 8 * l.length / 256 ^ 8 = q8 at *
          rcases id hown with ⟨_, h0⟩ | ⟨gb, cap, cur, fr, rfl, hbg, hgr, _, hlc, hcm, _, _⟩
          · rw [h0] at hL1; simp at hL1
          unfold maxLen at hcm
          have hcell : ∀ j (c : UInt8), L[j]? = some c → wp.cell? ⟨gb, j, none⟩ = some (.int .u8 (c.toNat : Int)) := hown.cell.2.2
          have hgb2 : gb < wp.heap.size := (Array.getElem?_eq_some_iff.1 hgr).1
          have HC0 := hid hcell; clear hcell hgr hown
          have hmm := @run_makeMap Tryz.prog
          obtain ⟨m0, hm0⟩ : ∃ m0, m0 = wp.alloc (.cells #[.int .u32 1732584193, .int .u32 4023233417, .int .u32 2562383102, .int .u32 271733878] 201) := ⟨_, rfl⟩
          have hms : m0.heap.size = wp.heap.size + 1 := by rw [hm0]; simp
          have B0 : Blk m0 wp.heap.size 201 (stA QMd.first) := by rw [hm0]; exact Blk.new _ _ _
          have z0 : Below wp.heap.size wp m0 := by rw [hm0]; exact (Below.refl _ _).alloc (Nat.le_refl _) _
          obtain ⟨m1, q1, f1, g1⟩ := (TurnM.made m0).put (by omega) 0 7 (by omega) (by omega) (by omega) (by omega)
          obtain ⟨m2, q2, f2, g2⟩ := f1.put (by omega) 1 12 (by omega) (by omega) (by omega) (by omega)
          obtain ⟨m3, q3, f3, g3⟩ := f2.put (by omega) 2 17 (by omega) (by omega) (by omega) (by omega)
          obtain ⟨m4, q4, f4, g4⟩ := f3.put (by omega) 3 22 (by omega) (by omega) (by omega) (by omega)
          obtain ⟨m5, q5, f5, g5⟩ := f4.put (by omega) 16 5 (by omega) (by omega) (by omega) (by omega)
          obtain ⟨m6, q6, f6, g6⟩ := f5.put (by omega) 17 9 (by omega) (by omega) (by omega) (by omega)
          obtain ⟨m7, q7, f7, g7⟩ := f6.put (by omega) 18 14 (by omega) (by omega) (by omega) (by omega)
          obtain ⟨m8, q8, f8, g8⟩ := f7.put (by omega) 19 20 (by omega) (by omega) (by omega) (by omega)
          obtain ⟨m9, q9, f9, g9⟩ := f8.put (by omega) 32 4 (by omega) (by omega) (by omega) (by omega)
          obtain ⟨m10, q10, f10, g10⟩ := f9.put (by omega) 33 11 (by omega) (by omega) (by omega) (by omega)
          obtain ⟨m11, q11, f11, g11⟩ := f10.put (by omega) 34 16 (by omega) (by omega) (by omega) (by omega)
          obtain ⟨m12, q12, f12, g12⟩ := f11.put (by omega) 35 23 (by omega) (by omega) (by omega) (by omega)
          obtain ⟨m13, q13, f13, g13⟩ := f12.put (by omega) 48 6 (by omega) (by omega) (by omega) (by omega)
          obtain ⟨m14, q14, f14, g14⟩ := f13.put (by omega) 49 10 (by omega) (by omega) (by omega) (by omega)
          obtain ⟨m15, q15, f15, g15⟩ := f14.put (by omega) 50 15 (by omega) (by omega) (by omega) (by omega)
          obtain ⟨m16, q16, f16, g16⟩ := f15.put (by omega) 51 21 (by omega) (by omega) (by omega) (by omega)
          have z1 := z0.alloc (by omega) (.map #[] 0)
          have z2 := z1.grown g1 (by have := z1.size; omega) (fun k hk => by cases hk; omega)
          have z3 := z2.grown g2 (by have := z2.size; omega) (fun k hk => by cases hk; omega)
          have z4 := z3.grown g3 (by have := z3.size; omega) (fun k hk => by cases hk; omega)
          have z5 := z4.grown g4 (by have := z4.size; omega) (fun k hk => by cases hk; omega)
          have z6 := z5.grown g5 (by have := z5.size; omega) (fun k hk => by cases hk; omega)
          have z7 := z6.grown g6 (by have := z6.size; omega) (fun k hk => by cases hk; omega)
          have z8 := z7.grown g7 (by have := z7.size; omega) (fun k hk => by cases hk; omega)
          have z9 := z8.grown g8 (by have := z8.size; omega) (fun k hk => by cases hk; omega)
          have z10 := z9.grown g9 (by have := z9.size; omega) (fun k hk => by cases hk; omega)
          have z11 := z10.grown g10 (by have := z10.size; omega) (fun k hk => by cases hk; omega)
          have z12 := z11.grown g11 (by have := z11.size; omega) (fun k hk => by cases hk; omega)
          have z13 := z12.grown g12 (by have := z12.size; omega) (fun k hk => by cases hk; omega)
          have z14 := z13.grown g13 (by have := z13.size; omega) (fun k hk => by cases hk; omega)
          have z15 := z14.grown g14 (by have := z14.size; omega) (fun k hk => by cases hk; omega)
          have z16 := z15.grown g15 (by have := z15.size; omega) (fun k hk => by cases hk; omega)
          have z17 := z16.grown g16 (by have := z16.size; omega) (fun k hk => by cases hk; omega)
          have B1 := B0.below ((Below.refl _ _).alloc (Nat.le_refl _) (.map #[] 0))
          have B2 := B1.only g1 (by omega)
          have B3 := B2.only g2 (by omega)
          have B4 := B3.only g3 (by omega)
          have B5 := B4.only g4 (by omega)
          have B6 := B5.only g5 (by omega)
          have B7 := B6.only g6 (by omega)
          have B8 := B7.only g7 (by omega)
          have B9 := B8.only g8 (by omega)
          have B10 := B9.only g9 (by omega)
          have B11 := B10.only g10 (by omega)
          have B12 := B11.only g11 (by omega)
          have B13 := B12.only g12 (by omega)
          have B14 := B13.only g13 (by omega)
          have B15 := B14.only g14 (by omega)
          have B16 := B15.only g15 (by omega)
          have B17 := B16.only g16 (by omega)
          have hT16 : TurnM m16 m0.heap.size 16 turnsI := f16
          have z17s := z17.size
          clear f1 g1 f2 g2 f3 g3 f4 g4 f5 g5 f6 g6 f7 g7 f8 g8 f9 g9 f10 g10 f11 g11 f12 g12 f13 g13 f14 g14 f15 g15 f16 g16 B1 B2 B3 B4 B5 B6 B7 B8 B9 B10 B11 B12 B13 B14 B15 B16 B0 z0 z1 z2 z3 z4 z5 z6 z7 z8 z9 z10 z11 z12 z13 z14 z15 z16
          rw [hms] at q1 q2 q3 q4 q5 q6 q7 q8 q9 q10 q11 q12 q13 q14 q15 q16 hT16
          subst hm0
          have hb16 := hb.trans (z17.mono hB)
          have HC := hid (show ∀ (j : Nat) (c : UInt8), L[j]? = some c → m16.cell? ⟨gb, j, none⟩ = some (.int .u8 (c.toNat : Int)) from fun j c hj => (z17.cell (p := ⟨gb, j, none⟩) hgb2).trans (HC0.out j c hj))
          clear z17 HC0 hb
          go_wp2
          go_loopw [4] (fun vb wr => ROutR L gb cap wp.heap.size m16 vb wr) (fun vb _ => lenOf vb)
          case atStart => exact ⟨0, 0, by omega, fun _ => rfl, by simp, B17, ⟨rfl, rfl, rfl, Nat.le_refl _, fun _ _ _ => rfl⟩⟩
          case round =>
            clear q1 q2 q3 q4 q5 q6 q7 q8 q9 q10 q11 q12 q13 q14 q15 q16 hmm B17
            obtain ⟨i, off, hi, hoff, rfl, hS, hgr⟩ := hrel
            have hsr := hgr.size
            have z17t := z17s
            by_cases hlt2 : 64 * i < L.length
            · obtain rfl := hoff hlt2
              clear hoff
              have hst := QMd.stN_lt 64 L i
              have hsucc : QMd.stN 64 L (i + 1) = QMd.blockN 64 (L.drop (64 * i)) (QMd.stN 64 L i) := rfl
              have HSU := hid hsucc; clear hsucc
              have hTn : TurnM wr (wp.heap.size + 1) 16 turnsI := hT16.kept hgr (by intro e; have := Option.some.inj e; omega)
              have HC1 := hid (show ∀ j (c : UInt8), (L.drop (64 * i))[j]? = some c → wr.cell? ⟨gb, 64 * i + j, none⟩ = some (.int .u8 (c.toNat : Int)) from fun j c hj => by
                rw [List.getElem?_drop] at hj
                exact hgr.cell (HC.out _ c hj) (by simp; omega))
              have hdl : (L.drop (64 * i)).length = L.length - 64 * i := by simp
              obtain ⟨o, ho⟩ : ∃ o, 64 * i = o := ⟨_, rfl⟩
              obtain ⟨m, hm⟩ : ∃ m, L.length - 64 * i = m := ⟨_, rfl⟩
              obtain ⟨cp, hcp⟩ : ∃ cp, cap - 64 * i = cp := ⟨_, rfl⟩
              have hll : 64 ≤ m := by omega
              have Ho := hid ho; have Hm := hid hm; have Hcp := hid hcp
              rw [hm, hcp, ho]
              rw [ho] at HC1
              rw [hm, ho] at hdl
              rw [ho] at HSU
              generalize L.drop o = M at *
              clear ho hm hcp
              generalize QMd.stN 64 L i = st at *
              have s0 := (hS.cell 0).trans (rfl : _ = some (Value.int .u32 (st.a : Int)))
              have s1 := (hS.cell 1).trans (rfl : _ = some (Value.int .u32 (st.b : Int)))
              have s2 := (hS.cell 2).trans (rfl : _ = some (Value.int .u32 (st.c : Int)))
              have s3 := (hS.cell 3).trans (rfl : _ = some (Value.int .u32 (st.d : Int)))
              have hm0 : 0 < m := by omega
              have hgbr : gb < wr.heap.size := by omega
              go_wp2
              go_quiet (fail)
              go_wp2
              have BQ := below_drewN (Below.refl wr.heap.size wr) nq
              rename World => W4
              go_loopw [7, 8, 9, 10, 68] (fun a b c d i wx => RMix M st W4 a b c d i wx) (fun _ _ _ _ i _ => 64 - (intOf i).toNat)
              case atStart => exact ⟨0, by omega, rfl, rfl, rfl, rfl, rfl, BQ⟩
              case round =>
                obtain ⟨k, hk, rfl, rfl, rfl, rfl, rfl, hbx⟩ := hrel
                have hrl := QMd.roundsN_lt M k st hst
                have hsuc : QMd.roundsN M (k + 1) st = QMd.stepN M k (QMd.roundsN M k st) := rfl
                have HSU2 := hid hsuc; clear hsuc
                clear s0 s1 s2 s3
                by_cases hlt3 : k < 64
                · have hTk := hTn.below hbx
                  have hlk := turns_look k hlt3
                  have htb := QMd.turn_bd k hlt3
                  have hwl := QMd.word_lt M (QMd.atN k)
                  have hsl := QMd.sine_lt k
                  have hal := QMd.at_lt k hlt3
                  have csine := fun w => hid (sine_any k hlt3 w)
                  have hc : ∀ j, j < 4 → wr.cell? ⟨gb, o + (4 * QMd.atN k + j), none⟩ = some (.int .u8 ((M.getD (4 * QMd.atN k + j) 0).toNat : Int)) := fun j hj => by
                    have h1 : M[4 * QMd.atN k + j]? = some (M.getD (4 * QMd.atN k + j) 0) := by
                      rw [List.getD, List.getElem?_eq_getElem (by omega)]; rfl
                    exact (hbx.cell (p := ⟨gb, o + (4 * QMd.atN k + j), none⟩) hgbr).trans (HC1.out _ _ h1)
                  have hwd : QMd.wordN M (QMd.atN k) = (M.getD (4 * QMd.atN k) 0).toNat + (M.getD (4 * QMd.atN k + 1) 0).toNat * 256 + (M.getD (4 * QMd.atN k + 2) 0).toNat * 65536 + (M.getD (4 * QMd.atN k + 3) 0).toNat * 16777216 := rfl
                  generalize QMd.roundsN M k st = r at *
                  obtain ⟨ra, rb, rc, rd⟩ := r
                  obtain ⟨hra, hrb, hrc, hrd⟩ := hrl
                  simp only at hra hrb hrc hrd
                  have hk64 : (k : Int) < 64 := by omega
                  by_cases h16 : k < 16
                  · have hat : QMd.atN k = k := by unfold QMd.atN; rw [if_pos h16]
                    have h16I : (k : Int) < 16 := by omega
                    obtain ⟨gg, hgg⟩ : ∃ gg, gg = QMd.atN k := ⟨_, rfl⟩
                    have hg16 : gg < 16 := by omega
                    rw [← hgg] at hc hwl hwd
                    rw [hat] at hgg
                    obtain rfl : gg = k := hgg
                    have h0 : wr.cell? ⟨gb, o + 4 * gg, none⟩ = some (.int .u8 ((M.getD (4 * gg) 0).toNat : Int)) := hc 0 (by omega)
                    have h1 := hc 1 (by omega)
                    have h2 := hc 2 (by omega)
                    have h3 := hc 3 (by omega)
                    have b0 := (M.getD (4 * gg) 0).toNat_lt
                    have b1 := (M.getD (4 * gg + 1) 0).toNat_lt
                    have b2 := (M.getD (4 * gg + 2) 0).toNat_lt
                    have b3 := (M.getD (4 * gg + 3) 0).toNat_lt
                    have i0 : (4 : Int) * (gg : Int) < (m : Int) := by omega
                    have i1 : (4 : Int) * (gg : Int) + 1 < (m : Int) := by omega
                    have i2 : (4 : Int) * (gg : Int) + 2 < (m : Int) := by omega
                    have i3 : (4 : Int) * (gg : Int) + 3 < (m : Int) := by omega
                    have j0 : (0 : Int) ≤ 4 * (gg : Int) := by omega
                    have j1 : (0 : Int) ≤ 4 * (gg : Int) + 1 := by omega
                    have j2 : (0 : Int) ≤ 4 * (gg : Int) + 2 := by omega
                    have j3 : (0 : Int) ≤ 4 * (gg : Int) + 3 := by omega
                    have v0 : IntKind.i64.wrap (4 * (gg : Int)) = 4 * (gg : Int) := by rw [IntKind.wrap_i64]; omega
                    have v1 : IntKind.i64.wrap (4 * (gg : Int) + 1) = 4 * (gg : Int) + 1 := by rw [IntKind.wrap_i64]; omega
                    have v2 : IntKind.i64.wrap (4 * (gg : Int) + 2) = 4 * (gg : Int) + 2 := by rw [IntKind.wrap_i64]; omega
                    have v3 : IntKind.i64.wrap (4 * (gg : Int) + 3) = 4 * (gg : Int) + 3 := by rw [IntKind.wrap_i64]; omega
                    have t0 : (4 * (gg : Int)).toNat = 4 * gg := by omega
                    have t1 : (4 * (gg : Int) + 1).toNat = 4 * gg + 1 := by omega
                    have t2 : (4 * (gg : Int) + 2).toNat = 4 * gg + 2 := by omega
                    have t3 : (4 * (gg : Int) + 3).toNat = 4 * gg + 3 := by omega
                    have hq : (gg : Int) / 16 = 0 := by omega
                    obtain ⟨j, hj⟩ : ∃ j, j = gg % 4 := ⟨_, rfl⟩
                    have hmj : (gg : Int) % 4 = (j : Int) := by omega
                    rw [show gg / 16 * 16 + gg % 4 = j by omega] at hlk
                    have hF := rix0_bits rb rc rd hrb hrc hrd
                    have hfl := QMd.mix_lt gg rb rc rd hrb hrc hrd
                    have hfe : QMd.mixN gg rb rc rd = rd ^^^ (rb &&& (rc ^^^ rd)) := by unfold QMd.mixN; rw [if_pos h16]
                    rw [← hfe] at hF
                    have HB : Hid ((QMd.stepN M gg ⟨ra, rb, rc, rd⟩).b = (rb + QMd.rotN ((ra + QMd.mixN gg rb rc rd + QMd.sineN gg + QMd.wordN M (QMd.atN gg)) % 4294967296) (QMd.turnN gg)) % 4294967296) := hid rfl
                    rw [hat] at HB
                    clear hc hfe hat
                    have hj4 : j < 4 := by omega
                    clear hj
                    generalize (M.getD (4 * gg) 0).toNat = c0 at *
                    generalize (M.getD (4 * gg + 1) 0).toNat = c1 at *
                    generalize (M.getD (4 * gg + 2) 0).toNat = c2 at *
                    generalize (M.getD (4 * gg + 3) 0).toNat = c3 at *
                    generalize QMd.wordN M gg = wk at *
                    generalize QMd.mixN gg rb rc rd = f at *
                    generalize QMd.turnN gg = tk at *
                    generalize QMd.sineN gg = sk at *
                    go_wp2
                    go_quiet (fail)
                    go_wp2_with fail
                    refine (csine _).out.mono ?_
                    rintro e w8 ⟨rfl, hb8⟩
                    have hlk8 := (hTk.below (below_drewN (Below.refl wr.heap.size wr) nq)).below hb8
                    have hL8 := TurnM.look hlk8 ((j : Int)) (by omega) (by omega)
                    rw [hlk] at hL8
                    skip
                    skip
                    clear hlk8
                    have hb9 : Below W4.heap.size W4 w8 := hbx.trans (((below_drewN (Below.refl wr.heap.size wr) nq).trans hb8).mono hbx.size)
                    go_wp2
                    obtain ⟨X, hX⟩ : ∃ X : Nat, X = (ra + f + sk + wk) % 4294967296 := ⟨_, rfl⟩
                    have hXI : (((ra : Int) + (f : Int) + ((c0 : Int) + (c1 : Int) * 256 + (c2 : Int) * 65536 + (c3 : Int) * 16777216)) % 4294967296 + (sk : Int)) % 4294967296 = (X : Int) := by omega
                    rw [← hX] at HB
                    have hXl : X < 4294967296 := by omega
                    rw [hXI]
                    have HXI := hid hXI; clear hXI hX
                    have hRB := rot_bits X tk hXl
                    obtain ⟨htk0, htk1⟩ := htb
                    have htk2 : (tk : Int) ≤ 23 := by omega
                    clear hF
                    go_quiet (fail)
                    go_wp2
                    go_roundw
                    case rel =>
                      refine ⟨gg + 1, by omega, by go_num, ?_, ?_, ?_, ?_, below_drewN hb9 _⟩
                      · rw [HSU2.out]; rfl
                      · rw [HSU2.out, HB.out]; simp
                      · rw [HSU2.out]; rfl
                      · rw [HSU2.out]; rfl
                    case measure => simp [intOf]; omega
                  by_cases h32 : k < 32
                  · have hat : QMd.atN k = (5 * k + 1) % 16 := by unfold QMd.atN; rw [if_neg h16, if_pos h32]
                    have h16I : ¬ (k : Int) < 16 := by omega
                    have h32I : (k : Int) < 32 := by omega
                    obtain ⟨gg, hgg⟩ : ∃ gg, gg = QMd.atN k := ⟨_, rfl⟩
                    have hgI : (5 * (k : Int) + 1) % 16 = (gg : Int) := by omega
                    have hg16 : gg < 16 := by omega
                    rw [← hgg] at hc hwl hwd
                    have h0 : wr.cell? ⟨gb, o + 4 * gg, none⟩ = some (.int .u8 ((M.getD (4 * gg) 0).toNat : Int)) := hc 0 (by omega)
                    have h1 := hc 1 (by omega)
                    have h2 := hc 2 (by omega)
                    have h3 := hc 3 (by omega)
                    have b0 := (M.getD (4 * gg) 0).toNat_lt
                    have b1 := (M.getD (4 * gg + 1) 0).toNat_lt
                    have b2 := (M.getD (4 * gg + 2) 0).toNat_lt
                    have b3 := (M.getD (4 * gg + 3) 0).toNat_lt
                    have i0 : (4 : Int) * (gg : Int) < (m : Int) := by omega
                    have i1 : (4 : Int) * (gg : Int) + 1 < (m : Int) := by omega
                    have i2 : (4 : Int) * (gg : Int) + 2 < (m : Int) := by omega
                    have i3 : (4 : Int) * (gg : Int) + 3 < (m : Int) := by omega
                    have j0 : (0 : Int) ≤ 4 * (gg : Int) := by omega
                    have j1 : (0 : Int) ≤ 4 * (gg : Int) + 1 := by omega
                    have j2 : (0 : Int) ≤ 4 * (gg : Int) + 2 := by omega
                    have j3 : (0 : Int) ≤ 4 * (gg : Int) + 3 := by omega
                    have v0 : IntKind.i64.wrap (4 * (gg : Int)) = 4 * (gg : Int) := by rw [IntKind.wrap_i64]; omega
                    have v1 : IntKind.i64.wrap (4 * (gg : Int) + 1) = 4 * (gg : Int) + 1 := by rw [IntKind.wrap_i64]; omega
                    have v2 : IntKind.i64.wrap (4 * (gg : Int) + 2) = 4 * (gg : Int) + 2 := by rw [IntKind.wrap_i64]; omega
                    have v3 : IntKind.i64.wrap (4 * (gg : Int) + 3) = 4 * (gg : Int) + 3 := by rw [IntKind.wrap_i64]; omega
                    have t0 : (4 * (gg : Int)).toNat = 4 * gg := by omega
                    have t1 : (4 * (gg : Int) + 1).toNat = 4 * gg + 1 := by omega
                    have t2 : (4 * (gg : Int) + 2).toNat = 4 * gg + 2 := by omega
                    have t3 : (4 * (gg : Int) + 3).toNat = 4 * gg + 3 := by omega
                    have hq : (k : Int) / 16 = 1 := by omega
                    obtain ⟨j, hj⟩ : ∃ j, j = k % 4 := ⟨_, rfl⟩
                    have hmj : (k : Int) % 4 = (j : Int) := by omega
                    rw [show k / 16 * 16 + k % 4 = 16 + j by omega] at hlk
                    have hF := rix0_bits rd rb rc hrd hrb hrc
                    have hfl := QMd.mix_lt k rb rc rd hrb hrc hrd
                    have hfe : QMd.mixN k rb rc rd = rc ^^^ (rd &&& (rb ^^^ rc)) := by unfold QMd.mixN; rw [if_neg h16, if_pos h32]
                    rw [← hfe] at hF
                    have HB : Hid ((QMd.stepN M k ⟨ra, rb, rc, rd⟩).b = (rb + QMd.rotN ((ra + QMd.mixN k rb rc rd + QMd.sineN k + QMd.wordN M (QMd.atN k)) % 4294967296) (QMd.turnN k)) % 4294967296) := hid rfl
                    rw [← hgg] at HB
                    clear hc hfe hat hgg
                    have hj4 : j < 4 := by omega
                    clear hj
                    generalize (M.getD (4 * gg) 0).toNat = c0 at *
                    generalize (M.getD (4 * gg + 1) 0).toNat = c1 at *
                    generalize (M.getD (4 * gg + 2) 0).toNat = c2 at *
                    generalize (M.getD (4 * gg + 3) 0).toNat = c3 at *
                    generalize QMd.wordN M gg = wk at *
                    generalize QMd.mixN k rb rc rd = f at *
                    generalize QMd.turnN k = tk at *
                    generalize QMd.sineN k = sk at *
                    go_wp2
                    go_quiet (fail)
                    go_wp2_with fail
                    refine (csine _).out.mono ?_
                    rintro e w8 ⟨rfl, hb8⟩
                    have hlk8 := (hTk.below (below_drewN (Below.refl wr.heap.size wr) nq)).below hb8
                    have hL8 := TurnM.look hlk8 (16 + (j : Int)) (by omega) (by omega)
                    rw [show (16 + (j : Int)) = ((16 + j : Nat) : Int) by omega, hlk] at hL8
                    rw [show (((16 + j : Nat) : Int)) = (16 + (j : Int)) by omega] at hL8
                    skip
                    clear hlk8
                    have hb9 : Below W4.heap.size W4 w8 := hbx.trans (((below_drewN (Below.refl wr.heap.size wr) nq).trans hb8).mono hbx.size)
                    go_wp2
                    obtain ⟨X, hX⟩ : ∃ X : Nat, X = (ra + f + sk + wk) % 4294967296 := ⟨_, rfl⟩
                    have hXI : (((ra : Int) + (f : Int) + ((c0 : Int) + (c1 : Int) * 256 + (c2 : Int) * 65536 + (c3 : Int) * 16777216)) % 4294967296 + (sk : Int)) % 4294967296 = (X : Int) := by omega
                    rw [← hX] at HB
                    have hXl : X < 4294967296 := by omega
                    rw [hXI]
                    have HXI := hid hXI; clear hXI hX
                    have hRB := rot_bits X tk hXl
                    obtain ⟨htk0, htk1⟩ := htb
                    have htk2 : (tk : Int) ≤ 23 := by omega
                    clear hF
                    go_quiet (fail)
                    go_wp2
                    go_roundw
                    case rel =>
                      refine ⟨k + 1, by omega, by go_num, ?_, ?_, ?_, ?_, below_drewN hb9 _⟩
                      · rw [HSU2.out]; rfl
                      · rw [HSU2.out, HB.out]; simp
                      · rw [HSU2.out]; rfl
                      · rw [HSU2.out]; rfl
                    case measure => simp [intOf]; omega
                  by_cases h48 : k < 48
                  · have hat : QMd.atN k = (3 * k + 5) % 16 := by unfold QMd.atN; rw [if_neg h16, if_neg h32, if_pos h48]
                    have h16I : ¬ (k : Int) < 16 := by omega
                    have h32I : ¬ (k : Int) < 32 := by omega
                    have h48I : (k : Int) < 48 := by omega
                    obtain ⟨gg, hgg⟩ : ∃ gg, gg = QMd.atN k := ⟨_, rfl⟩
                    have hgI : (3 * (k : Int) + 5) % 16 = (gg : Int) := by omega
                    have hg16 : gg < 16 := by omega
                    rw [← hgg] at hc hwl hwd
                    have h0 : wr.cell? ⟨gb, o + 4 * gg, none⟩ = some (.int .u8 ((M.getD (4 * gg) 0).toNat : Int)) := hc 0 (by omega)
                    have h1 := hc 1 (by omega)
                    have h2 := hc 2 (by omega)
                    have h3 := hc 3 (by omega)
                    have b0 := (M.getD (4 * gg) 0).toNat_lt
                    have b1 := (M.getD (4 * gg + 1) 0).toNat_lt
                    have b2 := (M.getD (4 * gg + 2) 0).toNat_lt
                    have b3 := (M.getD (4 * gg + 3) 0).toNat_lt
                    have i0 : (4 : Int) * (gg : Int) < (m : Int) := by omega
                    have i1 : (4 : Int) * (gg : Int) + 1 < (m : Int) := by omega
                    have i2 : (4 : Int) * (gg : Int) + 2 < (m : Int) := by omega
                    have i3 : (4 : Int) * (gg : Int) + 3 < (m : Int) := by omega
                    have j0 : (0 : Int) ≤ 4 * (gg : Int) := by omega
                    have j1 : (0 : Int) ≤ 4 * (gg : Int) + 1 := by omega
                    have j2 : (0 : Int) ≤ 4 * (gg : Int) + 2 := by omega
                    have j3 : (0 : Int) ≤ 4 * (gg : Int) + 3 := by omega
                    have v0 : IntKind.i64.wrap (4 * (gg : Int)) = 4 * (gg : Int) := by rw [IntKind.wrap_i64]; omega
                    have v1 : IntKind.i64.wrap (4 * (gg : Int) + 1) = 4 * (gg : Int) + 1 := by rw [IntKind.wrap_i64]; omega
                    have v2 : IntKind.i64.wrap (4 * (gg : Int) + 2) = 4 * (gg : Int) + 2 := by rw [IntKind.wrap_i64]; omega
                    have v3 : IntKind.i64.wrap (4 * (gg : Int) + 3) = 4 * (gg : Int) + 3 := by rw [IntKind.wrap_i64]; omega
                    have t0 : (4 * (gg : Int)).toNat = 4 * gg := by omega
                    have t1 : (4 * (gg : Int) + 1).toNat = 4 * gg + 1 := by omega
                    have t2 : (4 * (gg : Int) + 2).toNat = 4 * gg + 2 := by omega
                    have t3 : (4 * (gg : Int) + 3).toNat = 4 * gg + 3 := by omega
                    have hq : (k : Int) / 16 = 2 := by omega
                    obtain ⟨j, hj⟩ : ∃ j, j = k % 4 := ⟨_, rfl⟩
                    have hmj : (k : Int) % 4 = (j : Int) := by omega
                    rw [show k / 16 * 16 + k % 4 = 32 + j by omega] at hlk
                    have hF := mix2_bits rb rc rd hrb hrc hrd
                    have hfl := QMd.mix_lt k rb rc rd hrb hrc hrd
                    have hfe : QMd.mixN k rb rc rd = rb ^^^ rc ^^^ rd := by unfold QMd.mixN; rw [if_neg h16, if_neg h32, if_pos h48]
                    rw [← hfe] at hF
                    have HB : Hid ((QMd.stepN M k ⟨ra, rb, rc, rd⟩).b = (rb + QMd.rotN ((ra + QMd.mixN k rb rc rd + QMd.sineN k + QMd.wordN M (QMd.atN k)) % 4294967296) (QMd.turnN k)) % 4294967296) := hid rfl
                    rw [← hgg] at HB
                    clear hc hfe hat hgg
                    have hj4 : j < 4 := by omega
                    clear hj
                    generalize (M.getD (4 * gg) 0).toNat = c0 at *
                    generalize (M.getD (4 * gg + 1) 0).toNat = c1 at *
                    generalize (M.getD (4 * gg + 2) 0).toNat = c2 at *
                    generalize (M.getD (4 * gg + 3) 0).toNat = c3 at *
                    generalize QMd.wordN M gg = wk at *
                    generalize QMd.mixN k rb rc rd = f at *
                    generalize QMd.turnN k = tk at *
                    generalize QMd.sineN k = sk at *
                    go_wp2
                    go_quiet (fail)
                    go_wp2_with fail
                    refine (csine _).out.mono ?_
                    rintro e w8 ⟨rfl, hb8⟩
                    have hlk8 := (hTk.below (below_drewN (Below.refl wr.heap.size wr) nq)).below hb8
                    have hL8 := TurnM.look hlk8 (32 + (j : Int)) (by omega) (by omega)
                    rw [show (32 + (j : Int)) = ((32 + j : Nat) : Int) by omega, hlk] at hL8
                    rw [show (((32 + j : Nat) : Int)) = (32 + (j : Int)) by omega] at hL8
                    skip
                    clear hlk8
                    have hb9 : Below W4.heap.size W4 w8 := hbx.trans (((below_drewN (Below.refl wr.heap.size wr) nq).trans hb8).mono hbx.size)
                    go_wp2
                    obtain ⟨X, hX⟩ : ∃ X : Nat, X = (ra + f + sk + wk) % 4294967296 := ⟨_, rfl⟩
                    have hXI : (((ra : Int) + (f : Int) + ((c0 : Int) + (c1 : Int) * 256 + (c2 : Int) * 65536 + (c3 : Int) * 16777216)) % 4294967296 + (sk : Int)) % 4294967296 = (X : Int) := by omega
                    rw [← hX] at HB
                    have hXl : X < 4294967296 := by omega
                    rw [hXI]
                    have HXI := hid hXI; clear hXI hX
                    have hRB := rot_bits X tk hXl
                    obtain ⟨htk0, htk1⟩ := htb
                    have htk2 : (tk : Int) ≤ 23 := by omega
                    clear hF
                    go_quiet (fail)
                    go_wp2
                    go_roundw
                    case rel =>
                      refine ⟨k + 1, by omega, by go_num, ?_, ?_, ?_, ?_, below_drewN hb9 _⟩
                      · rw [HSU2.out]; rfl
                      · rw [HSU2.out, HB.out]; simp
                      · rw [HSU2.out]; rfl
                      · rw [HSU2.out]; rfl
                    case measure => simp [intOf]; omega
                  have hat : QMd.atN k = 7 * k % 16 := by unfold QMd.atN; rw [if_neg h16, if_neg h32, if_neg h48]
                  have h16I : ¬ (k : Int) < 16 := by omega
                  have h32I : ¬ (k : Int) < 32 := by omega
                  have h48I : ¬ (k : Int) < 48 := by omega
                  obtain ⟨gg, hgg⟩ : ∃ gg, gg = QMd.atN k := ⟨_, rfl⟩
                  have hgI : 7 * (k : Int) % 16 = (gg : Int) := by omega
                  have hg16 : gg < 16 := by omega
                  rw [← hgg] at hc hwl hwd
                  have h0 : wr.cell? ⟨gb, o + 4 * gg, none⟩ = some (.int .u8 ((M.getD (4 * gg) 0).toNat : Int)) := hc 0 (by omega)
                  have h1 := hc 1 (by omega)
                  have h2 := hc 2 (by omega)
                  have h3 := hc 3 (by omega)
                  have b0 := (M.getD (4 * gg) 0).toNat_lt
                  have b1 := (M.getD (4 * gg + 1) 0).toNat_lt
                  have b2 := (M.getD (4 * gg + 2) 0).toNat_lt
                  have b3 := (M.getD (4 * gg + 3) 0).toNat_lt
                  have i0 : (4 : Int) * (gg : Int) < (m : Int) := by omega
                  have i1 : (4 : Int) * (gg : Int) + 1 < (m : Int) := by omega
                  have i2 : (4 : Int) * (gg : Int) + 2 < (m : Int) := by omega
                  have i3 : (4 : Int) * (gg : Int) + 3 < (m : Int) := by omega
                  have j0 : (0 : Int) ≤ 4 * (gg : Int) := by omega
                  have j1 : (0 : Int) ≤ 4 * (gg : Int) + 1 := by omega
                  have j2 : (0 : Int) ≤ 4 * (gg : Int) + 2 := by omega
                  have j3 : (0 : Int) ≤ 4 * (gg : Int) + 3 := by omega
                  have v0 : IntKind.i64.wrap (4 * (gg : Int)) = 4 * (gg : Int) := by rw [IntKind.wrap_i64]; omega
                  have v1 : IntKind.i64.wrap (4 * (gg : Int) + 1) = 4 * (gg : Int) + 1 := by rw [IntKind.wrap_i64]; omega
                  have v2 : IntKind.i64.wrap (4 * (gg : Int) + 2) = 4 * (gg : Int) + 2 := by rw [IntKind.wrap_i64]; omega
                  have v3 : IntKind.i64.wrap (4 * (gg : Int) + 3) = 4 * (gg : Int) + 3 := by rw [IntKind.wrap_i64]; omega
                  have t0 : (4 * (gg : Int)).toNat = 4 * gg := by omega
                  have t1 : (4 * (gg : Int) + 1).toNat = 4 * gg + 1 := by omega
                  have t2 : (4 * (gg : Int) + 2).toNat = 4 * gg + 2 := by omega
                  have t3 : (4 * (gg : Int) + 3).toNat = 4 * gg + 3 := by omega
                  have hq : (k : Int) / 16 = 3 := by omega
                  obtain ⟨j, hj⟩ : ∃ j, j = k % 4 := ⟨_, rfl⟩
                  have hmj : (k : Int) % 4 = (j : Int) := by omega
                  rw [show k / 16 * 16 + k % 4 = 48 + j by omega] at hlk
                  have hF := rix3_bits rb rc rd hrb hrc hrd
                  have hfl := QMd.mix_lt k rb rc rd hrb hrc hrd
                  have hfe : QMd.mixN k rb rc rd = rc ^^^ (rb ||| (4294967295 - rd)) := by unfold QMd.mixN; rw [if_neg h16, if_neg h32, if_neg h48]
                  rw [← hfe] at hF
                  have HB : Hid ((QMd.stepN M k ⟨ra, rb, rc, rd⟩).b = (rb + QMd.rotN ((ra + QMd.mixN k rb rc rd + QMd.sineN k + QMd.wordN M (QMd.atN k)) % 4294967296) (QMd.turnN k)) % 4294967296) := hid rfl
                  rw [← hgg] at HB
                  clear hc hfe hat hgg
                  have hj4 : j < 4 := by omega
                  clear hj
                  generalize (M.getD (4 * gg) 0).toNat = c0 at *
                  generalize (M.getD (4 * gg + 1) 0).toNat = c1 at *
                  generalize (M.getD (4 * gg + 2) 0).toNat = c2 at *
                  generalize (M.getD (4 * gg + 3) 0).toNat = c3 at *
                  generalize QMd.wordN M gg = wk at *
                  generalize QMd.mixN k rb rc rd = f at *
                  generalize QMd.turnN k = tk at *
                  generalize QMd.sineN k = sk at *
                  go_wp2
                  go_quiet (fail)
                  go_wp2_with fail
                  refine (csine _).out.mono ?_
                  rintro e w8 ⟨rfl, hb8⟩
                  have hlk8 := (hTk.below (below_drewN (Below.refl wr.heap.size wr) nq)).below hb8
                  have hL8 := TurnM.look hlk8 (48 + (j : Int)) (by omega) (by omega)
                  rw [show (48 + (j : Int)) = ((48 + j : Nat) : Int) by omega, hlk] at hL8
                  rw [show (((48 + j : Nat) : Int)) = (48 + (j : Int)) by omega] at hL8
                  skip
                  clear hlk8
                  have hb9 : Below W4.heap.size W4 w8 := hbx.trans (((below_drewN (Below.refl wr.heap.size wr) nq).trans hb8).mono hbx.size)
                  go_wp2
                  obtain ⟨X, hX⟩ : ∃ X : Nat, X = (ra + f + sk + wk) % 4294967296 := ⟨_, rfl⟩
                  have hXI : (((ra : Int) + (f : Int) + ((c0 : Int) + (c1 : Int) * 256 + (c2 : Int) * 65536 + (c3 : Int) * 16777216)) % 4294967296 + (sk : Int)) % 4294967296 = (X : Int) := by omega
                  rw [← hX] at HB
                  have hXl : X < 4294967296 := by omega
                  rw [hXI]
                  have HXI := hid hXI; clear hXI hX
                  have hRB := rot_bits X tk hXl
                  obtain ⟨htk0, htk1⟩ := htb
                  have htk2 : (tk : Int) ≤ 23 := by omega
                  clear hF
                  go_quiet (fail)
                  go_wp2
                  go_roundw
                  case rel =>
                    refine ⟨k + 1, by omega, by go_num, ?_, ?_, ?_, ?_, below_drewN hb9 _⟩
                    · rw [HSU2.out]; rfl
                    · rw [HSU2.out, HB.out]; simp
                    · rw [HSU2.out]; rfl
                    · rw [HSU2.out]; rfl
                  case measure => simp [intOf]; omega
                · obtain rfl : k = 64 := by omega
                  try rw [show ((64 : Nat) : Int) = 64 from rfl]
                  have B5 := hS.below hbx
                  have hB5l : wp.heap.size < wr.heap.size := B5.lt
                  have hGW : m16.grownBy wr (some wp.heap.size) := grown_then hgr (grown_below hbx none) (fun g hg => by cases hg)
                  have hblk : QMd.blockN 64 M st = QMd.addN st (QMd.roundsN M 64 st) := rfl
                  rw [hblk] at HSU
                  have HBK := hid hGW
                  have hsW := hGW.size
                  clear hGW hblk hbx BQ HSU2 hTn
                  generalize QMd.roundsN M 64 st = r at *
                  obtain ⟨ra, rb, rc, rd⟩ := r
                  obtain ⟨hra, hrb, hrc, hrd⟩ := hrl
                  obtain ⟨sa, sb, sc, sd⟩ := st
                  obtain ⟨hsa, hsb, hsc, hsd⟩ := hst
                  simp only at hra hrb hrc hrd hsa hsb hsc hsd
                  go_wp2
                  rename World => W5
                  go_loopw [186] (fun i wx => RAddR ⟨sa, sb, sc, sd⟩ ⟨ra, rb, rc, rd⟩ wp.heap.size (W5.alloc (.cells #[.int .u32 (ra : Int), .int .u32 (rb : Int), .int .u32 (rc : Int), .int .u32 (rd : Int)] 201)) i wx) (fun i _ => 4 - (intOf i).toNat)
                  case atStart => exact ⟨0, by omega, rfl, B5.below ((Below.refl _ _).alloc (Nat.le_refl _) _), ⟨rfl, rfl, rfl, Nat.le_refl _, fun _ _ _ => rfl⟩⟩
                  case round =>
                    obtain ⟨k, hk, hiv, hA, hga⟩ := hrel
                    have hX := (Blk.new W5 201 #[.int .u32 (ra : Int), .int .u32 (rb : Int), .int .u32 (rc : Int), .int .u32 (rd : Int)]).only hga (by omega)
                    have hk5 : k = 0 ∨ k = 1 ∨ k = 2 ∨ k = 3 ∨ k = 4 := by omega
                    rcases hk5 with rfl | rfl | rfl | rfl | rfl
                    · have hiv := hiv.trans (rfl : _ = Value.int .i64 0)
                      subst hiv
                      have a0 := (hA.cell 0).trans (rfl : _ = some (Value.int .u32 (sa : Int)))
                      have x0 := (hX.cell 0).trans (rfl : _ = some (Value.int .u32 (ra : Int)))
                      have f0 := hA.free 0
                      go_wp2
                      go_roundw
                      case rel => exact ⟨1, by omega, by go_num, hA.set 0 _, grown_set hga 0 _⟩
                      case measure => simp [intOf]
                    · have hiv := hiv.trans (rfl : _ = Value.int .i64 1)
                      subst hiv
                      have a0 := (hA.cell 1).trans (rfl : _ = some (Value.int .u32 (sb : Int)))
                      have x0 := (hX.cell 1).trans (rfl : _ = some (Value.int .u32 (rb : Int)))
                      have f0 := hA.free 1
                      go_wp2
                      go_roundw
                      case rel => exact ⟨2, by omega, by go_num, hA.set 1 _, grown_set hga 1 _⟩
                      case measure => simp [intOf]
                    · have hiv := hiv.trans (rfl : _ = Value.int .i64 2)
                      subst hiv
                      have a0 := (hA.cell 2).trans (rfl : _ = some (Value.int .u32 (sc : Int)))
                      have x0 := (hX.cell 2).trans (rfl : _ = some (Value.int .u32 (rc : Int)))
                      have f0 := hA.free 2
                      go_wp2
                      go_roundw
                      case rel => exact ⟨3, by omega, by go_num, hA.set 2 _, grown_set hga 2 _⟩
                      case measure => simp [intOf]
                    · have hiv := hiv.trans (rfl : _ = Value.int .i64 3)
                      subst hiv
                      have a0 := (hA.cell 3).trans (rfl : _ = some (Value.int .u32 (sd : Int)))
                      have x0 := (hX.cell 3).trans (rfl : _ = some (Value.int .u32 (rd : Int)))
                      have f0 := hA.free 3
                      go_wp2
                      go_roundw
                      case rel => exact ⟨4, by omega, by go_num, hA.set 3 _, grown_set hga 3 _⟩
                      case measure => simp [intOf]
                    · have hiv := hiv.trans (rfl : _ = Value.int .i64 4)
                      subst hiv
                      rw [addA_full, ← HSU.out] at hA
                      have hgf := grown_then (grown_then HBK.out (World.grownBy_alloc W5 (.cells #[.int .u32 (ra : Int), .int .u32 (rb : Int), .int .u32 (rc : Int), .int .u32 (rd : Int)] 201) (some wp.heap.size)) (fun g hg => .inl hg)) hga (fun g hg => .inl hg)
                      have hoI := Ho.out
                      have hmI := Hm.out
                      have hcI := Hcp.out
                      have hcm64 : m ≤ cp := by omega
                      clear Ho Hm Hcp hX
                      by_cases hc64 : cp = 64
                      · go_wp2
                        go_roundw
                        case rel => exact ⟨i + 1, o, by omega, fun h => by omega, by congr 1 <;> omega, hA, hgf⟩
                        case measure => simp [lenOf]; omega
                      · go_wp2
                        go_roundw
                        case rel => exact ⟨i + 1, o + 64, by omega, fun h => by omega, by congr 1 <;> omega, hA, hgf⟩
                        case measure => simp [lenOf]; omega
            · have hiL : i = L.length / 64 := by omega
              subst hiL
              have hlen0 : L.length - 64 * (L.length / 64) = 0 := by omega
              rw [hlen0, hL3]
              have hst := QMd.stN_lt 64 L (L.length / 64)
              generalize QMd.stN 64 L (L.length / 64) = st at *
              obtain ⟨sa, sb, sc, sd⟩ := st
              obtain ⟨hsa, hsb, hsc, hsd⟩ := hst
              simp only at hsa hsb hsc hsd
              have hBw : Below w.heap.size w wr := hb16.grown hgr (by omega) (fun k hk => by cases hk; omega)
              have cv := conv1 (P := Tryz.prog) 120 9 5 5 Tryz.underlying120 Tryz.underlying5 Tryz.underlying9
              clear HC hgr hb16 hT16 hi hoff
              go_wp2
              rename World => W6
              have HB6 := hid hBw; clear hBw
              go_loopw [19, 201] (fun o i wx => ROutS (QMd.outL ⟨sa, sb, sc, sd⟩) W6 o i wx) (fun _ i _ => 4 - (intOf i).toNat)
              case atStart => exact ⟨0, by omega, rfl, rfl, Below.refl _ _⟩
              case round =>
                obtain ⟨k, hk, hiv, hov, hb⟩ := hrel
                have hB := hb.size
                have hS6 := hS.below hb
                have hk5 : k = 0 ∨ k = 1 ∨ k = 2 ∨ k = 3 ∨ k = 4 := by omega
                rcases hk5 with rfl | rfl | rfl | rfl | rfl
                · have hiv := hiv.trans (rfl : _ = Value.int .i64 0)
                  subst hiv
                  have hov := hov.trans (rfl : _ = Value.string (bs ((QMd.outL ⟨sa, sb, sc, sd⟩).take 0)))
                  subst hov
                  have a0 := (hS6.cell 0).trans (rfl : _ = some (Value.int .u32 (sa : Int)))
                  have hpl : ((QMd.outL ⟨sa, sb, sc, sd⟩).take 0).length = 0 := rfl
                  have hpn := hid (show (QMd.outL ⟨sa, sb, sc, sd⟩).take 4 = (QMd.outL ⟨sa, sb, sc, sd⟩).take 0 ++ QMd.leN sa 4 from rfl)
                  generalize hpre : (QMd.outL ⟨sa, sb, sc, sd⟩).take 0 = pre at *
                  have HPRE := hid hpre; clear hpre
                  go_wp2
                  rename World => W7
                  go_loopw [19, 21, 205] (fun o x i wx => RByte pre sa W7 o x i wx) (fun _ _ i _ => 4 - (intOf i).toNat)
                  case atStart => exact ⟨0, by omega, rfl, by simp, by simp [QMd.leN], Below.refl _ _⟩
                  case round =>
                    obtain ⟨j, hj, rfl, rfl, rfl, hbj⟩ := hrel
                    have hBj := hbj.size
                    by_cases hj4 : j < 4
                    · have hsn := hid (QMd.leN_snoc sa j)
                      have hdv := hid (show sa / 256 ^ (j + 1) = sa / 256 ^ j / 256 by rw [Nat.pow_succ, Nat.div_div_eq_div_mul])
                      have hll : (QMd.leN sa j).length = j := QMd.leN_len _ _
                      have hxl : sa / 256 ^ j ≤ sa := Nat.div_le_self _ _
                      generalize sa / 256 ^ j = x at *
                      have hbo := hid (byte_mod x)
                      generalize QMd.leN sa j = ll at *
                      go_wp2
                      go_roundw
                      case rel => exact ⟨j + 1, by omega, by go_num, by rw [hdv.out]; go_num, by rw [hsn.out, hbo.out], hbj.alloc hBj _⟩
                      case measure => simp [intOf]; omega
                    · obtain rfl : j = 4 := by omega
                      try rw [show ((4 : Nat) : Int) = 4 from rfl]
                      rw [← hpn.out]
                      clear a0
                      go_wp2
                      go_roundw
                      case rel => exact ⟨1, by omega, by go_num, rfl, hb.trans (hbj.mono hB)⟩
                      case measure => simp [intOf]
                · have hiv := hiv.trans (rfl : _ = Value.int .i64 1)
                  subst hiv
                  have hov := hov.trans (rfl : _ = Value.string (bs ((QMd.outL ⟨sa, sb, sc, sd⟩).take 4)))
                  subst hov
                  have a0 := (hS6.cell 1).trans (rfl : _ = some (Value.int .u32 (sb : Int)))
                  have hpl : ((QMd.outL ⟨sa, sb, sc, sd⟩).take 4).length = 4 := rfl
                  have hpn := hid (show (QMd.outL ⟨sa, sb, sc, sd⟩).take 8 = (QMd.outL ⟨sa, sb, sc, sd⟩).take 4 ++ QMd.leN sb 4 from rfl)
                  generalize hpre : (QMd.outL ⟨sa, sb, sc, sd⟩).take 4 = pre at *
                  have HPRE := hid hpre; clear hpre
                  go_wp2
                  rename World => W7
                  go_loopw [19, 21, 205] (fun o x i wx => RByte pre sb W7 o x i wx) (fun _ _ i _ => 4 - (intOf i).toNat)
                  case atStart => exact ⟨0, by omega, rfl, by simp, by simp [QMd.leN], Below.refl _ _⟩
                  case round =>
                    obtain ⟨j, hj, rfl, rfl, rfl, hbj⟩ := hrel
                    have hBj := hbj.size
                    by_cases hj4 : j < 4
                    · have hsn := hid (QMd.leN_snoc sb j)
                      have hdv := hid (show sb / 256 ^ (j + 1) = sb / 256 ^ j / 256 by rw [Nat.pow_succ, Nat.div_div_eq_div_mul])
                      have hll : (QMd.leN sb j).length = j := QMd.leN_len _ _
                      have hxl : sb / 256 ^ j ≤ sb := Nat.div_le_self _ _
                      generalize sb / 256 ^ j = x at *
                      have hbo := hid (byte_mod x)
                      generalize QMd.leN sb j = ll at *
                      go_wp2
                      go_roundw
                      case rel => exact ⟨j + 1, by omega, by go_num, by rw [hdv.out]; go_num, by rw [hsn.out, hbo.out], hbj.alloc hBj _⟩
                      case measure => simp [intOf]; omega
                    · obtain rfl : j = 4 := by omega
                      try rw [show ((4 : Nat) : Int) = 4 from rfl]
                      rw [← hpn.out]
                      clear a0
                      go_wp2
                      go_roundw
                      case rel => exact ⟨2, by omega, by go_num, rfl, hb.trans (hbj.mono hB)⟩
                      case measure => simp [intOf]
                · have hiv := hiv.trans (rfl : _ = Value.int .i64 2)
                  subst hiv
                  have hov := hov.trans (rfl : _ = Value.string (bs ((QMd.outL ⟨sa, sb, sc, sd⟩).take 8)))
                  subst hov
                  have a0 := (hS6.cell 2).trans (rfl : _ = some (Value.int .u32 (sc : Int)))
                  have hpl : ((QMd.outL ⟨sa, sb, sc, sd⟩).take 8).length = 8 := rfl
                  have hpn := hid (show (QMd.outL ⟨sa, sb, sc, sd⟩).take 12 = (QMd.outL ⟨sa, sb, sc, sd⟩).take 8 ++ QMd.leN sc 4 from rfl)
                  generalize hpre : (QMd.outL ⟨sa, sb, sc, sd⟩).take 8 = pre at *
                  have HPRE := hid hpre; clear hpre
                  go_wp2
                  rename World => W7
                  go_loopw [19, 21, 205] (fun o x i wx => RByte pre sc W7 o x i wx) (fun _ _ i _ => 4 - (intOf i).toNat)
                  case atStart => exact ⟨0, by omega, rfl, by simp, by simp [QMd.leN], Below.refl _ _⟩
                  case round =>
                    obtain ⟨j, hj, rfl, rfl, rfl, hbj⟩ := hrel
                    have hBj := hbj.size
                    by_cases hj4 : j < 4
                    · have hsn := hid (QMd.leN_snoc sc j)
                      have hdv := hid (show sc / 256 ^ (j + 1) = sc / 256 ^ j / 256 by rw [Nat.pow_succ, Nat.div_div_eq_div_mul])
                      have hll : (QMd.leN sc j).length = j := QMd.leN_len _ _
                      have hxl : sc / 256 ^ j ≤ sc := Nat.div_le_self _ _
                      generalize sc / 256 ^ j = x at *
                      have hbo := hid (byte_mod x)
                      generalize QMd.leN sc j = ll at *
                      go_wp2
                      go_roundw
                      case rel => exact ⟨j + 1, by omega, by go_num, by rw [hdv.out]; go_num, by rw [hsn.out, hbo.out], hbj.alloc hBj _⟩
                      case measure => simp [intOf]; omega
                    · obtain rfl : j = 4 := by omega
                      try rw [show ((4 : Nat) : Int) = 4 from rfl]
                      rw [← hpn.out]
                      clear a0
                      go_wp2
                      go_roundw
                      case rel => exact ⟨3, by omega, by go_num, rfl, hb.trans (hbj.mono hB)⟩
                      case measure => simp [intOf]
                · have hiv := hiv.trans (rfl : _ = Value.int .i64 3)
                  subst hiv
                  have hov := hov.trans (rfl : _ = Value.string (bs ((QMd.outL ⟨sa, sb, sc, sd⟩).take 12)))
                  subst hov
                  have a0 := (hS6.cell 3).trans (rfl : _ = some (Value.int .u32 (sd : Int)))
                  have hpl : ((QMd.outL ⟨sa, sb, sc, sd⟩).take 12).length = 12 := rfl
                  have hpn := hid (show (QMd.outL ⟨sa, sb, sc, sd⟩).take 16 = (QMd.outL ⟨sa, sb, sc, sd⟩).take 12 ++ QMd.leN sd 4 from rfl)
                  generalize hpre : (QMd.outL ⟨sa, sb, sc, sd⟩).take 12 = pre at *
                  have HPRE := hid hpre; clear hpre
                  go_wp2
                  rename World => W7
                  go_loopw [19, 21, 205] (fun o x i wx => RByte pre sd W7 o x i wx) (fun _ _ i _ => 4 - (intOf i).toNat)
                  case atStart => exact ⟨0, by omega, rfl, by simp, by simp [QMd.leN], Below.refl _ _⟩
                  case round =>
                    obtain ⟨j, hj, rfl, rfl, rfl, hbj⟩ := hrel
                    have hBj := hbj.size
                    by_cases hj4 : j < 4
                    · have hsn := hid (QMd.leN_snoc sd j)
                      have hdv := hid (show sd / 256 ^ (j + 1) = sd / 256 ^ j / 256 by rw [Nat.pow_succ, Nat.div_div_eq_div_mul])
                      have hll : (QMd.leN sd j).length = j := QMd.leN_len _ _
                      have hxl : sd / 256 ^ j ≤ sd := Nat.div_le_self _ _
                      generalize sd / 256 ^ j = x at *
                      have hbo := hid (byte_mod x)
                      generalize QMd.leN sd j = ll at *
                      go_wp2
                      go_roundw
                      case rel => exact ⟨j + 1, by omega, by go_num, by rw [hdv.out]; go_num, by rw [hsn.out, hbo.out], hbj.alloc hBj _⟩
                      case measure => simp [intOf]; omega
                    · obtain rfl : j = 4 := by omega
                      try rw [show ((4 : Nat) : Int) = 4 from rfl]
                      rw [← hpn.out]
                      clear a0
                      go_wp2
                      go_roundw
                      case rel => exact ⟨4, by omega, by go_num, rfl, hb.trans (hbj.mono hB)⟩
                      case measure => simp [intOf]
                · have hiv := hiv.trans (rfl : _ = Value.int .i64 4)
                  subst hiv
                  have hov := hov.trans (rfl : _ = Value.string (bs (QMd.outL ⟨sa, sb, sc, sd⟩)))
                  subst hov
                  go_wp2
                  go_ret
                  rw [HMD.out]
                  exact ⟨rfl, HB6.out.trans (hb.mono HB6.out.size)⟩
end Go.Proofs.YtejbigoacknfoaaGreatDoor
