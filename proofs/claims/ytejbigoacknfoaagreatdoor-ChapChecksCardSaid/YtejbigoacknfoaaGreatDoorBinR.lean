/- Binary values by the document: digits, hexadecimal and Base64. -/
import Derived.Test.YtejbigoacknfoaaGreatDoorBinPure
set_option linter.unusedSectionVars false
set_option linter.unusedSimpArgs false
set_option linter.unusedVariables false
namespace Go.Proofs.YtejbigoacknfoaaGreatDoor
open Go Go.RowKit
set_option linter.unusedVariables false
set_option linter.unusedSectionVars false
set_option linter.unusedSimpArgs false
set_option maxRecDepth 100000
def RDig (f : List UInt8) (k : Nat) (W : World) (v : Value) (wr : World) : Prop :=
  ∃ j : Nat, v = .string (bs (List.replicate j 48 ++ f)) ∧ j ≤ k - f.length ∧ wr = W
theorem rdigits_any (b k n : Nat) (w : World) (hb : b = 2 ∨ b = 16) (hn : n < 256) (hk : k ≤ 8) (hD : DT w) :
    Calls Tryz.prog 60 #[.int .i64 (n : Nat), .int .i64 (b : Nat), .int .i64 (k : Nat)] w fun e w' => e = .returned (.string (bs (QBin.padN b k n))) ∧ Below w.heap.size w w' := by
  have c1 := hid (fint_any b n w hb hn hD)
  obtain ⟨hf1, hf2⟩ := QBin.fmt_len b n hb hn
  have HP := hid (show QBin.padN b k n = List.replicate (k - (fmtP b n).length) 48 ++ fmtP b n from rfl)
  clear hD hb hn
  go_enter Tryz.func60, Tryz.ntmps60
  go_wp2_with fail
  refine c1.out.mono ?_
  rintro e w1 ⟨rfl, hb1⟩
  have HB := hid hb1; clear hb1 c1
  generalize fmtP b n = f at *
  go_wp2
  go_loopw [7] (fun v wr => RDig f k w1 v wr) (fun v _ => k - strLen v)
  case atStart => exact ⟨0, by simp, by omega, rfl⟩
  case round =>
    obtain ⟨j, rfl, hj, rfl⟩ := hrel
    have hpl : (List.replicate j (48 : UInt8) ++ f).length = j + f.length := by simp
    have HSN := hid (show [48] ++ (List.replicate j (48 : UInt8) ++ f) = List.replicate (j + 1) 48 ++ f by simp [List.replicate_succ])
    have HEN := hid (show k - f.length = j → QBin.padN b k n = List.replicate j 48 ++ f from fun h => by rw [HP.out, h])
    clear HP
    generalize hs : List.replicate j (48 : UInt8) ++ f = s at *
    have HS := hid hs; clear hs
    by_cases hlt : j + f.length < k
    · go_wp2
      go_roundw
      case rel => exact ⟨j + 1, by rw [← HSN.out]; rfl, by omega, rfl⟩
      case measure => simp [strLen, bs_size, show ByteArray.size { data := #[48] } = 1 from rfl]; omega
    · go_wp2
      go_ret
      rw [HEN.out (by omega)]
      exact ⟨rfl, HB.out⟩
def RHex (l : List UInt8) (W : World) (o i : Value) (wr : World) : Prop :=
  ∃ k : Nat, k ≤ l.length ∧ o = .string (bs (QBin.hexP (l.take k))) ∧ i = .int .i64 (k : Nat) ∧ Below W.heap.size W wr
theorem rhex_any (l : List UInt8) (w : World) (hl : l.length ≤ 1000) (hD : DT w) :
    Calls Tryz.prog 13 #[.string (bs l)] w fun e w' => e = .returned (.string (bs (QBin.hexP l))) ∧ Below w.heap.size w w' := by
  have cv := fun w => conv_sb (P := Tryz.prog) 9 120 5 Tryz.underlying9 Tryz.underlying120 Tryz.underlying5 (bs l) w
  obtain ⟨cp, W1, hcv, hcp, hcell, hbw, hsz1, _⟩ := cv w
  rw [bs_size] at hcv
  clear cv
  have hD1 := hid (hD.below hbw); clear hD
  have hB : ∀ (j : Nat) (c : UInt8), l[j]? = some c → W1.cell? ⟨w.heap.size, j, none⟩ = some (.int .u8 c.toNat) := fun j c hj => by
    obtain ⟨h1, h2⟩ := List.getElem?_eq_some_iff.1 hj
    subst h2
    exact (hcell j (by rw [bs_size]; exact h1)).trans rfl
  have HBW := hid hbw; have HB := hid hB; clear hbw hB hcell
  go_enter Tryz.func13, Tryz.ntmps13
  go_wp2
  go_loopw [3, 9] (fun o i wr => RHex l W1 o i wr) (fun _ i _ => l.length - (intOf i).toNat)
  case atStart => exact ⟨0, by omega, rfl, rfl, Below.refl _ _⟩
  case round =>
    obtain ⟨k, hk, rfl, rfl, hb⟩ := hrel
    have hB := hb.size
    by_cases hkn : k < l.length
    · obtain ⟨c, hc⟩ : ∃ c, l[k]? = some c := ⟨l[k], List.getElem?_eq_getElem hkn⟩
      have hcell : wr.cell? ⟨w.heap.size, k, none⟩ = some (.int .u8 c.toNat) := (hb.cell (p := ⟨w.heap.size, k, none⟩) (by show w.heap.size < W1.heap.size; omega)).trans (HB.out k c hc)
      have hc256 : c.toNat < 256 := c.toNat_lt
      have HST := hid (show QBin.hexP (l.take k) ++ QBin.padN 16 2 c.toNat = QBin.hexP (l.take (k + 1)) by
        unfold QBin.hexP
        rw [QBin.hexF_take l k c hc, QBin.pad_hex _ hc256, List.append_assoc])
      have cd := hid (show Calls Tryz.prog 60 #[.int .i64 (c.toNat : Nat), .int .i64 16, .int .i64 2] wr _ from rdigits_any 16 2 c.toNat wr (Or.inr rfl) hc256 (by omega) (hD1.out.below hb))
      have hpl : (QBin.hexP (l.take k)).length = 2 + 2 * k := by unfold QBin.hexP; rw [List.length_append, QBin.hexF_len, List.length_take]; simp; omega
      have hql : (QBin.padN 16 2 c.toNat).length = 2 := by rw [QBin.pad_hex _ hc256]; rfl
      generalize hp : QBin.hexP (l.take k) = p at *
      generalize hq : QBin.padN 16 2 c.toNat = q at *
      clear HB hc hp hq
      go_wp2_with fail
      refine cd.out.mono ?_
      rintro e w1 ⟨rfl, hb1⟩
      have HB1 := hid (hb.trans (hb1.mono hB)); clear hb1 hb
      go_wp2
      go_roundw
      case rel => exact ⟨k + 1, by omega, by rw [← HST.out], by go_num, HB1.out⟩
      case measure => simp [intOf]; omega
    · obtain rfl : k = l.length := by omega
      rw [List.take_length]
      clear HB
      go_wp2
      go_ret
      exact ⟨rfl, HBW.out.trans (hb.mono (by omega))⟩
def RBits (l : List UInt8) (W : World) (o i : Value) (wr : World) : Prop :=
  ∃ k : Nat, k ≤ l.length ∧ o = .string (bs (QBin.bitsF (l.take k))) ∧ i = .int .i64 (k : Nat) ∧ Below W.heap.size W wr
def RPadZ (l : List UInt8) (W : World) (o : Value) (wr : World) : Prop :=
  ∃ j : Nat, j ≤ (6 - l.length % 6) % 6 ∧ o = .string (bs (l ++ List.replicate j 48)) ∧ wr = W
def RChop (L : List UInt8) (n : Nat) (W : World) (b o : Value) (wr : World) : Prop :=
  ∃ k : Nat, k ≤ n ∧ b = .string (bs (L.drop (6 * k))) ∧ o = .string (bs (QBin.chop6 k L)) ∧ Below W.heap.size W wr
theorem let_cut (n : Nat) (h : n < 64) : (QBin.letters.take (n + 1)).drop n = [QBin.letN n] := by
  have : ∀ j : Fin 64, (QBin.letters.take (j.val + 1)).drop j.val = [QBin.letN j.val] := by decide +kernel
  exact this ⟨n, h⟩
theorem eq_cut (n : Nat) (h : n < 4) : ([61, 61, 61] : List UInt8).take n = List.replicate n 61 := by
  have : ∀ j : Fin 4, ([61, 61, 61] : List UInt8).take j.val = List.replicate j.val 61 := by decide
  exact this ⟨n, h⟩
set_option maxHeartbeats 4000000 in
theorem rbase_any (l : List UInt8) (w : World) (hl : l.length ≤ 1000) (hD : DT w) :
    Calls Tryz.prog 15 #[.string (bs l)] w fun e w' => e = .returned (.string (bs (QBin.ref64 l))) ∧ Below w.heap.size w w' := by
  have cv := fun w => conv_sb (P := Tryz.prog) 9 120 5 Tryz.underlying9 Tryz.underlying120 Tryz.underlying5 (bs l) w
  obtain ⟨cp, W1, hcv, hcp, hcell, hbw, hsz1, _⟩ := cv w
  rw [bs_size] at hcv
  clear cv
  have hD1 := hid (hD.below hbw); clear hD
  have hB : ∀ (j : Nat) (c : UInt8), l[j]? = some c → W1.cell? ⟨w.heap.size, j, none⟩ = some (.int .u8 c.toNat) := fun j c hj => by
    obtain ⟨h1, h2⟩ := List.getElem?_eq_some_iff.1 hj
    subst h2
    exact (hcell j (by rw [bs_size]; exact h1)).trans rfl
  have HBW := hid hbw; have HB := hid hB; clear hbw hB hcell
  go_enter Tryz.func15, Tryz.ntmps15
  go_wp2
  go_loopw [3, 12] (fun o i wr => RBits l W1 o i wr) (fun _ i _ => l.length - (intOf i).toNat)
  case atStart => exact ⟨0, by omega, rfl, rfl, Below.refl _ _⟩
  case round =>
    obtain ⟨k, hk, rfl, rfl, hb⟩ := hrel
    have hB := hb.size
    by_cases hkn : k < l.length
    · obtain ⟨c, hc⟩ : ∃ c, l[k]? = some c := ⟨l[k], List.getElem?_eq_getElem hkn⟩
      have hcell : wr.cell? ⟨w.heap.size, k, none⟩ = some (.int .u8 c.toNat) := (hb.cell (p := ⟨w.heap.size, k, none⟩) (by show w.heap.size < W1.heap.size; omega)).trans (HB.out k c hc)
      have hc256 : c.toNat < 256 := c.toNat_lt
      have HST := hid (show QBin.bitsF (l.take k) ++ QBin.padN 2 8 c.toNat = QBin.bitsF (l.take (k + 1)) by
        rw [QBin.bitsF_take l k c hc, QBin.pad_bits8 _ hc256])
      have cd := hid (show Calls Tryz.prog 60 #[.int .i64 (c.toNat : Nat), .int .i64 2, .int .i64 8] wr _ from rdigits_any 2 8 c.toNat wr (Or.inl rfl) hc256 (by omega) (hD1.out.below hb))
      have hpl : (QBin.bitsF (l.take k)).length = 8 * k := by rw [QBin.bitsF_len, List.length_take]; omega
      have hql : (QBin.padN 2 8 c.toNat).length = 8 := by rw [QBin.pad_bits8 _ hc256]; rfl
      generalize hp : QBin.bitsF (l.take k) = p at *
      generalize hq : QBin.padN 2 8 c.toNat = q at *
      clear HB hc hp hq
      go_wp2_with fail
      refine cd.out.mono ?_
      rintro e w1 ⟨rfl, hb1⟩
      have HB1 := hid (hb.trans (hb1.mono hB)); clear hb1 hb
      go_wp2
      go_roundw
      case rel => exact ⟨k + 1, by omega, by rw [← HST.out], by go_num, HB1.out⟩
      case measure => simp [intOf]; omega
    · obtain rfl : k = l.length := by omega
      rw [List.take_length]
      clear HB
      have hbl := QBin.bitsF_len l
      have HLT := hid (QBin.bitsF_lt l)
      have HREF := hid (show QBin.ref64 l = [48, 98] ++ QBin.chop6 ((8 * l.length + 5) / 6) (QBin.padZ (QBin.bitsF l)) ++ QBin.eqs ((8 * l.length + 5) / 6) from rfl)
      have HB2 := hid (HBW.out.trans (hb.mono (by omega)))
      have HD2 := hid (hD1.out.below hb)
      clear hD1 HBW
      generalize hB : QBin.bitsF l = B at *
      clear hB
      go_wp2
      rename World => W2
      go_loopw [3] (fun o wr => RPadZ B W2 o wr) (fun o _ => 8008 - strLen o)
      case atStart => exact ⟨0, by omega, by simp, rfl⟩
      case round =>
        obtain ⟨j, hj, rfl, rfl⟩ := hrel
        have hpl : (B ++ List.replicate j (48 : UInt8)).length = B.length + j := by simp
        have HSN := hid (show (B ++ List.replicate j (48 : UInt8)) ++ [48] = B ++ List.replicate (j + 1) 48 by rw [List.append_assoc, List.replicate_succ'])
        have HEN := hid (show j = (6 - B.length % 6) % 6 → B ++ List.replicate j 48 = QBin.padZ B from fun h => by rw [h]; rfl)
        generalize hs : B ++ List.replicate j (48 : UInt8) = s at *
        have HS := hid hs; clear hs
        by_cases hlt : (B.length + j) % 6 ≠ 0
        · go_wp2
          go_roundw
          case rel => exact ⟨j + 1, by omega, by rw [← HSN.out]; rfl, rfl⟩
          case measure => simp [strLen, bs_size, show ByteArray.size { data := #[48] } = 1 from rfl]; omega
        · have hj6 : j = (6 - B.length % 6) % 6 := by omega
          have hse := HEN.out hj6
          have hdg : ∀ c ∈ s, digV c < 2 := by
            intro c hc
            rw [← HS.out, List.mem_append] at hc
            rcases hc with hc | hc
            · exact HLT.out c hc
            · rw [(List.mem_replicate.1 hc).2]; decide
          have hs6 : s.length = 6 * ((8 * l.length + 5) / 6) := by omega
          rw [← hse] at HREF
          generalize hN : (8 * l.length + 5) / 6 = N at *
          have hN2 : N ≤ 1400 := by omega
          have HDG := hid hdg
          clear HEN HSN HS hse hj6 hdg HLT hbl hpl hj
          go_wp2
          rename World => W3
          go_loopw [3, 6] (fun b o wr => RChop s N W3 b o wr) (fun b _ _ => strLen b)
          case atStart => exact ⟨0, by omega, rfl, rfl, Below.refl _ _⟩
          case round =>
            obtain ⟨k, hk, rfl, rfl, hb⟩ := hrel
            have hB := hb.size
            have hdl : (s.drop (6 * k)).length = 6 * (N - k) := by rw [List.length_drop]; omega
            have hcl := QBin.chop6_len k s
            by_cases hkN : k < N
            · have h6l : ((s.drop (6 * k)).take 6).length = 6 := by rw [List.length_take]; omega
              have h6d : ∀ c ∈ (s.drop (6 * k)).take 6, digV c < 2 := fun c hc => HDG.out c (List.mem_of_mem_drop (List.mem_of_mem_take hc))
              have HSN := hid (QBin.chop6_succ k s)
              have cp := hid (pint_2 ((s.drop (6 * k)).take 6) wr (by omega) (by omega) h6d)
              have hV : valD 2 ((s.drop (6 * k)).take 6) < 64 := by
                have := valD_lt 2 (by omega) ((s.drop (6 * k)).take 6) h6d 6 (by omega)
                rw [List.take_of_length_le (by omega)] at this
                exact this
              have hcut := let_cut _ hV
              have HDR := hid (show (s.drop (6 * k)).drop 6 = s.drop (6 * (k + 1)) by rw [List.drop_drop]; rfl)
              generalize valD 2 ((s.drop (6 * k)).take 6) = V at *
              generalize hd : s.drop (6 * k) = D at *
              generalize QBin.chop6 k s = O at *
              have hne : (D == []) = false := by
                cases D with
                | nil => simp at h6l
                | cons a D => rfl
              clear hd h6d
              go_wp2_with fail
              refine cp.out.mono ?_
              rintro e w1 ⟨rfl, hb1⟩
              have HB1 := hid (hb.trans (hb1.mono hB)); clear hb1 hb
              have hVi : (V : Int) < 64 := by omega
              go_wp2
              refine ⟨⟨k + 1, by omega, ?_, ?_, HB1.out⟩, ?_⟩
              · rw [List.take_of_length_le (by omega), HDR.out]
              · rw [HSN.out, ← bs_append, ← hcut, ← bs_extract]; rfl
              · simp only [strLen, bs_size, List.length_drop, List.length_take]; omega
            · obtain rfl : k = N := by omega
              have hd0 : s.drop (6 * k) = [] := List.drop_eq_nil_of_le (by omega)
              rw [hd0]
              have HEQ := hid (show QBin.eqs k = List.replicate ((4 - k % 4) % 4) 61 from rfl)
              generalize QBin.chop6 k s = O at *
              clear hd0
              go_wp2
              go_ret
              refine ⟨?_, HB2.out.trans (hb.mono (by omega))⟩
              rw [HREF.out, HEQ.out, ← eq_cut _ (by omega), show (-(((k : Nat) : Int) % 4) % 4).toNat = (4 - k % 4) % 4 by omega, ← bs_append, ← bs_append]
              rw [show bs (List.take ((4 - k % 4) % 4) [61, 61, 61]) = (bs [61, 61, 61]).extract 0 ((4 - k % 4) % 4) by rw [bs_extract]; rfl]
              rfl
end Go.Proofs.YtejbigoacknfoaaGreatDoor
