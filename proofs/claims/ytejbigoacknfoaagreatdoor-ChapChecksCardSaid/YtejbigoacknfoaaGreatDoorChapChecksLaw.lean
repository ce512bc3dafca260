/- The walk of the law ChapChecks: it returns true. -/
import Derived.Test.YtejbigoacknfoaaGreatDoorChapCheck
import Derived.Test.YtejbigoacknfoaaGreatDoorUsers
import Derived.Test.YtejbigoacknfoaaGreatDoorTabs
import Derived.Deep.RegionHeld3
import Derived.Deep.DeepCutAuto
import Derived.Deep.QuietTactic
import Derived.BigQuiet
set_option linter.unusedSectionVars false
set_option linter.unusedSimpArgs false
set_option linter.unusedVariables false
namespace Go.Proofs.YtejbigoacknfoaaGreatDoor
open Go Go.RowKit
set_option linter.unusedVariables false
set_option linter.unusedSectionVars false
set_option linter.unusedSimpArgs false
set_option maxRecDepth 100000
def RTh (l : PL) (W : World) (i : Value) (wr : World) : Prop :=
  ∃ k : Nat, k ≤ l.length ∧ i = .int .i64 (k : Nat) ∧ Hid (∀ j, j < k → (l.getD j ([], [])).2.length + (l.getD j ([], [])).1.length ≤ 300) ∧ Below W.heap.size W wr
theorem mvc {W W' : World} {g o : Nat} {u : Value} (hb : Below W.heap.size W W') (hc : W.cell? ⟨g, o, none⟩ = some u) : W'.cell? ⟨g, o, none⟩ = some u := (hb.cell (p := ⟨g, o, none⟩) (block_lt_of_cell hc)).trans hc
section
variable (v : Value) (l : PL) (name value : List UInt8) (id : Int) (ch : List UInt8) (w : World)
set_option maxHeartbeats 8000000 in
theorem chapChecks_law (h : PSl w v l) (hbd : UBd l) (hn : name.length ≤ 140737488355328) (hv : value.length ≤ 140737488355328) (hc : ch.length ≤ 140737488355328) (hg : EType w) (hD : DT w) (hL : LT w) :
    Calls Tryz.prog 4 #[v, .string (bs name), .string (bs value), drawV id ch] w fun e w' => e = .returned (.bool true) ∧ Below w.heap.size w w' := by
  obtain ⟨W2, hW2⟩ : ∃ W2, (w.alloc (.cells #[.string (bs name)] 9)).alloc (.cells #[.int .i64 id, .string (bs ch)] 36) = W2 := ⟨_, rfl⟩
  have B2 : Below w.heap.size w W2 := by rw [← hW2]; exact ((Below.refl _ _).alloc (Nat.le_refl _) _).alloc (by simp) _
  have n0 : W2.cell? ⟨w.heap.size, 0, none⟩ = some (.string (bs name)) := by rw [← hW2]; simp
  have d0 : W2.cell? ⟨w.heap.size + 1, 0, none⟩ = some (.int .i64 id) := by rw [← hW2]; simp
  have d1 : W2.cell? ⟨w.heap.size + 1, 1, none⟩ = some (.string (bs ch)) := by rw [← hW2]; simp
  have hz2 : w.heap.size + 2 ≤ W2.heap.size := by rw [← hW2]; simp
  have hw1 : IntKind.i64.wrap ((name.length : Int) + (value.length : Int)) = (name.length : Int) + (value.length : Int) := by rw [IntKind.wrap_i64]; omega
  have hw2 : IntKind.i64.wrap ((name.length : Int) + (value.length : Int) + (ch.length : Int)) = (name.length : Int) + (value.length : Int) + (ch.length : Int) := by rw [IntKind.wrap_i64]; omega
  have hF := h
  obtain ⟨sa, sc, rfl, _, _⟩ := hF
  unfold drawV
  by_cases hs1 : 50 < l.length
  · have hd1 : decide ((50 : Int) < (l.length : Int)) = true := decide_eq_true (by omega)
    clear h hs1
    go_enter Tryz.func4, Tryz.ntmps4
    go_wp2
    go_ret
    exact ⟨rfl, B2⟩
  · have hd1 : decide ((50 : Int) < (l.length : Int)) = false := decide_eq_false (by omega)
    by_cases hs2 : 900 < name.length + value.length + ch.length
    · have hd2 : decide ((900 : Int) < (name.length : Int) + (value.length : Int) + (ch.length : Int)) = true := decide_eq_true (by omega)
      clear h hs1 hs2
      go_enter Tryz.func4, Tryz.ntmps4
      go_wp2
      go_ret
      exact ⟨rfl, B2⟩
    · have hd2 : decide ((900 : Int) < (name.length : Int) + (value.length : Int) + (ch.length : Int)) = false := decide_eq_false (by omega)
      have HB2 := hid B2
      go_enter Tryz.func4, Tryz.ntmps4
      go_wp2
      go_loopw [35] (fun i wr => RTh l W2 i wr) (fun i _ => l.length - (intOf i).toNat)
      case atStart => exact ⟨0, by omega, rfl, hid (fun j hj => absurd hj (by omega)), Below.refl _ _⟩
      case round =>
        obtain ⟨k, hk, rfl, HN, hb⟩ := hrel
        have hB := hb.size
        have hb' := HB2.out.trans (hb.mono HB2.out.size)
        by_cases hlt : k < l.length
        · obtain ⟨_, b, o, c, hveq, hbl, hcell⟩ := h.open_.resolve_left (by rintro ⟨rfl, _⟩; simp at hlt)
          cases hveq
          obtain ⟨c0, c1⟩ := hcell k hlt
          have g0 := (hb'.cell (p := ⟨b, o + k * 2, none⟩) hbl).trans c0
          have g1 := (hb'.cell (p := ⟨b, o + k * 2 + 1, none⟩) hbl).trans c1
          obtain ⟨u0, u1⟩ := hbd.2 k
          by_cases hle : (l.getD k ([], [])).2.length + (l.getD k ([], [])).1.length ≤ 300
          · have HS := hid (show ∀ j, j < k + 1 → (l.getD j ([], [])).2.length + (l.getD j ([], [])).1.length ≤ 300 from fun j hj => by
              rcases Nat.lt_or_ge j k with h' | h'
              · exact HN.out j h'
              · obtain rfl : j = k := by omega
                exact hle)
            clear h hcell c0 c1 hbd
            generalize l.getD k ([], []) = x at *
            obtain ⟨x1, x2⟩ := x
            simp only at *
            have hw3 : IntKind.i64.wrap ((x2.length : Int) + (x1.length : Int)) = (x2.length : Int) + (x1.length : Int) := by rw [IntKind.wrap_i64]; omega
            have hd3 : decide ((300 : Int) < (x2.length : Int) + (x1.length : Int)) = false := decide_eq_false (by omega)
            clear hle
            go_wp2
            refine ⟨⟨k + 1, by omega, by go_num, hid HS.out, hb.alloc hB _⟩, by simp [intOf]; omega⟩
          · clear h hcell c0 c1 hbd HN
            generalize l.getD k ([], []) = x at *
            obtain ⟨x1, x2⟩ := x
            simp only at *
            have hw3 : IntKind.i64.wrap ((x2.length : Int) + (x1.length : Int)) = (x2.length : Int) + (x1.length : Int) := by rw [IntKind.wrap_i64]; omega
            have hd3 : decide ((300 : Int) < (x2.length : Int) + (x1.length : Int)) = true := decide_eq_true (by omega)
            clear hle
            go_wp2
            go_ret
            exact ⟨rfl, hb'.alloc (Nat.le_trans HB2.out.size hB) _⟩
        · obtain rfl : k = l.length := by omega
          have hsec : ∀ k, (l.getD k ([], [])).2.length ≤ 300 := fun k => by
            rcases Nat.lt_or_ge k l.length with h' | h'
            · have := HN.out k h'; omega
            · rw [List.getD, List.getElem?_eq_none h']; simp
          have n0 := mvc hb n0
          have d0 := mvc hb d0
          have d1 := mvc hb d1
          have hP := h.below hb'
          have hgr := hg.below hb'
          have hDr := hD.below hb'
          have hLr := hL.below hb'
          have c1 := hid (rresp_any id name ch wr (by omega) (by omega))
          have c2 := fun W => hid (resp_any id name ch W (by omega) (by omega))
          have c3 := fun W (hb : Below wr.heap.size wr W) => hid (idxU_any (.slice sa l.length sc) l name ⟨w.heap.size, 0, none⟩ W (hP.below hb) hbd.1 (mvc hb n0) rfl)
          have c4 := fun W (hb : Below wr.heap.size wr W) => hid (findU_any (.slice sa l.length sc) l name W (hP.below hb) hbd.1)
          have c5 := fun W (hb : Below wr.heap.size wr W) => hid (check_any (.slice sa l.length sc) l name value id ch W (hP.below hb) hbd.1 hsec (by omega) (by omega) (hgr.below hb))
          have c6 := fun W (hb : Below wr.heap.size wr W) => hid (rcheck_any (.slice sa l.length sc) l name value id ch W (hP.below hb) hbd.1 hsec (by omega) (by omega) (hDr.below hb) (hLr.below hb))
          have c7 := fun k W (hb : Below wr.heap.size wr W) => hid (bare_ok (errV 22 k) k W (hgr.below hb) (ErrIs.errV W k))
          have HP := hid hP
          clear h hP hgr hDr hLr hg hD hL HN hlt
          unfold foundU userV at c4
          unfold idxU at c3
          generalize respP id name ch = q at *
          obtain ⟨q1, qk⟩ := q
          simp only at c1 c2
          generalize checkP l name value id ch = K at *
          have hmf : ∀ (fn : Fn) (first cap : Array Value) (w : World), (Instr.makeFunc fn first cap).run Tryz.prog w = .ok (.func fn first cap) w := fun _ _ _ _ => rfl
          have hqq : (q1 == q1) = true := by simp
          have he1 : (errV 22 qk).cells = #[errV 22 qk] := by unfold errV; split <;> rfl
          have C7 := hid c7; have C5 := hid c5; have C6 := hid c6
          clear c7 c5 c6
          go_wp2_with fail
          refine c1.out.mono ?_
          rintro e w1 ⟨rfl, hb1⟩
          have n0 := mvc hb1 n0
          have d0 := mvc hb1 d0
          have d1 := mvc hb1 d1
          go_wp2_with fail
          refine (c2 _).out.mono ?_
          rintro e w2 ⟨rfl, hb2⟩
          have b2 := hb1.trans (hb2.mono hb1.size)
          have n0 := mvc hb2 n0
          have d0 := mvc hb2 d0
          have d1 := mvc hb2 d1
          go_wp2_with fail
          refine (c3 _ b2).out.mono ?_
          rintro e w3 ⟨rfl, hb3⟩
          have b3 := b2.trans (hb3.mono b2.size)
          have n0 := mvc hb3 n0
          have d0 := mvc hb3 d0
          have d1 := mvc hb3 d1
          by_cases hf : posU l name < l.length
          · simp only [if_pos hf] at c4 ⊢
            go_wp2_with fail
            refine (c4 _ b3).out.mono ?_
            rintro e w4 ⟨rfl, hb4⟩
            have b4 := b3.trans (hb4.mono b3.size)
            have n0 := mvc hb4 n0
            have d0 := mvc hb4 d0
            have d1 := mvc hb4 d1
            obtain ⟨W5, hW5⟩ : ∃ W5, w4.alloc (.cells #[.string (bs (l.getD (posU l name) ([], [])).1), .string (bs (l.getD (posU l name) ([], [])).2)] 38) = W5 := ⟨_, rfl⟩
            have hA5 : Below w4.heap.size w4 W5 := by rw [← hW5]; exact (Below.refl _ _).alloc (Nat.le_refl _) _
            have b5 := b4.trans (hA5.mono b4.size)
            have n0 := mvc hA5 n0
            have d0 := mvc hA5 d0
            have d1 := mvc hA5 d1
            have u0 : W5.cell? ⟨w4.heap.size, 0, none⟩ = some (.string (bs (l.getD (posU l name) ([], [])).1)) := by rw [← hW5]; simp
            have u1 : W5.cell? ⟨w4.heap.size, 1, none⟩ = some (.string (bs (l.getD (posU l name) ([], [])).2)) := by rw [← hW5]; simp
            obtain ⟨_, b, o, c, hveq, hbl, hcell⟩ := (HP.out.below b5).open_.resolve_left (by rintro ⟨rfl, _⟩; simp at hf)
            cases hveq
            obtain ⟨g0, g1⟩ := hcell _ hf
            generalize l.getD (posU l name) ([], []) = x at *
            obtain ⟨x1, x2⟩ := x
            simp only at *
            generalize posU l name = i at *
            clear hcell
            have hxx : (x1 == x1) = true := by simp
            have hyy : (x2 == x2) = true := by simp
            have hi0 : (0 : Int) ≤ (i : Int) := by omega
            have hi1 : (i : Int) < (l.length : Int) := by omega
            go_upto_region 13 with fail
            go_cut [98] (fun s98 wx => s98 = .bool false ∧ Below W5.heap.size W5 wx)
            case first =>
              go_quiet (fail)
              go_wp2
              go_meet
              exact ⟨rfl, ⟨rfl, rfl, rfl, Nat.le_refl _, fun k hk => rfl⟩⟩
            case rest =>
              obtain ⟨rfl, hb6⟩ := hcut
              have b6 := b5.trans (hb6.mono b5.size)
              have n0 := mvc hb6 n0
              have d0 := mvc hb6 d0
              have d1 := mvc hb6 d1
              clear u0 u1 g0 g1
              have hbX := hb'.trans (b6.mono hb'.size)
              have h1 : ∀ (k : Nat) (w' : World), (w'.cell? ⟨w.heap.size, 0, none⟩ = some (.string (bs name)) ∧ w'.cell? ⟨w.heap.size + 1, 0, none⟩ = some (.int .i64 id) ∧ w'.cell? ⟨w.heap.size + 1, 1, none⟩ = some (.string (bs ch)) ∧ Below wc.heap.size wc w') →
                  Hid (Calls Tryz.prog 22 #[errV 22 k, .int .i64 (k : Nat)] w' fun e w'' => e = .returned (.bool true) ∧ w''.cell? ⟨w.heap.size, 0, none⟩ = some (.string (bs name)) ∧ w''.cell? ⟨w.heap.size + 1, 0, none⟩ = some (.int .i64 id) ∧ w''.cell? ⟨w.heap.size + 1, 1, none⟩ = some (.string (bs ch)) ∧ Below wc.heap.size wc w'') := by
                intro k w' ⟨k0, k1, k2, k3⟩
                refine hid ((C7.out k w' (b6.trans (k3.mono b6.size))).out.mono ?_)
                rintro e w'' ⟨rfl, hb⟩
                exact ⟨rfl, mvc hb k0, mvc hb k1, mvc hb k2, k3.trans (hb.mono k3.size)⟩
              have h2 : ∀ (w' : World), (w'.cell? ⟨w.heap.size, 0, none⟩ = some (.string (bs name)) ∧ w'.cell? ⟨w.heap.size + 1, 0, none⟩ = some (.int .i64 id) ∧ w'.cell? ⟨w.heap.size + 1, 1, none⟩ = some (.string (bs ch)) ∧ Below wc.heap.size wc w') →
                  Hid (Calls Tryz.prog 23 #[.slice (some ⟨b, o, none⟩) l.length sc, .string (bs name), .string (bs value), .agg #[.int .i64 id, .string (bs ch)]] w' fun e w'' => e = .returned (errV 22 K) ∧ w''.cell? ⟨w.heap.size, 0, none⟩ = some (.string (bs name)) ∧ w''.cell? ⟨w.heap.size + 1, 0, none⟩ = some (.int .i64 id) ∧ w''.cell? ⟨w.heap.size + 1, 1, none⟩ = some (.string (bs ch)) ∧ Below wc.heap.size wc w'') := by
                intro w' ⟨k0, k1, k2, k3⟩
                refine hid ((C5.out w' (b6.trans (k3.mono b6.size))).out.mono ?_)
                rintro e w'' ⟨rfl, hb⟩
                exact ⟨rfl, mvc hb k0, mvc hb k1, mvc hb k2, k3.trans (hb.mono k3.size)⟩
              have h3 : ∀ (w' : World), (w'.cell? ⟨w.heap.size, 0, none⟩ = some (.string (bs name)) ∧ w'.cell? ⟨w.heap.size + 1, 0, none⟩ = some (.int .i64 id) ∧ w'.cell? ⟨w.heap.size + 1, 1, none⟩ = some (.string (bs ch)) ∧ Below wc.heap.size wc w') →
                  Hid (Calls Tryz.prog 24 #[.slice (some ⟨b, o, none⟩) l.length sc, .string (bs name), .string (bs value), .agg #[.int .i64 id, .string (bs ch)]] w' fun e w'' => e = .returned (.int .i64 (K : Nat)) ∧ w''.cell? ⟨w.heap.size, 0, none⟩ = some (.string (bs name)) ∧ w''.cell? ⟨w.heap.size + 1, 0, none⟩ = some (.int .i64 id) ∧ w''.cell? ⟨w.heap.size + 1, 1, none⟩ = some (.string (bs ch)) ∧ Below wc.heap.size wc w'') := by
                intro w' ⟨k0, k1, k2, k3⟩
                refine hid ((C6.out w' (b6.trans (k3.mono b6.size))).out.mono ?_)
                rintro e w'' ⟨rfl, hb⟩
                exact ⟨rfl, mvc hb k0, mvc hb k1, mvc hb k2, k3.trans (hb.mono k3.size)⟩
              have hd : Below wc.heap.size wc wc.drew := (Below.refl _ _).drew
              clear C5 C6 C7
              go_upto_region 15 with fail
              go_region_held3 (fun w' => w'.cell? ⟨w.heap.size, 0, none⟩ = some (.string (bs name)) ∧ w'.cell? ⟨w.heap.size + 1, 0, none⟩ = some (.int .i64 id) ∧ w'.cell? ⟨w.heap.size + 1, 1, none⟩ = some (.string (bs ch)) ∧ Below wc.heap.size wc w')
                (first | exact ⟨n0, d0, d1, hd⟩ | assumption | exact ⟨by assumption, by assumption, by assumption, by assumption⟩)
                (first
                  | (go_at_call 22; refine (h1 _ _ ?_).out.mono ?_; (first | assumption | exact ⟨n0, d0, d1, hd⟩ | exact ⟨by assumption, by assumption, by assumption, by assumption⟩); rintro e w7 ⟨rfl, i0, i1, i2, i3⟩)
                  | (go_at_call 23; refine (h2 _ ?_).out.mono ?_; (first | assumption | exact ⟨n0, d0, d1, hd⟩ | exact ⟨by assumption, by assumption, by assumption, by assumption⟩); rintro e w8 ⟨rfl, j0, j1, j2, j3⟩)
                  | (go_at_call 24; refine (h3 _ ?_).out.mono ?_; (first | assumption | exact ⟨n0, d0, d1, hd⟩ | exact ⟨by assumption, by assumption, by assumption, by assumption⟩); rintro e w9 ⟨rfl, m0, m1, m2, m3⟩))
              go_wp2_with fail
              go_ret
              refine ⟨rfl, hbX.trans (Below.mono ?_ hbX.size)⟩
              assumption
          · simp only [if_neg hf] at c4 ⊢
            go_wp2_with fail
            refine (c4 _ b3).out.mono ?_
            rintro e w4 ⟨rfl, hb4⟩
            have b4 := b3.trans (hb4.mono b3.size)
            have n0 := mvc hb4 n0
            have d0 := mvc hb4 d0
            have d1 := mvc hb4 d1
            obtain ⟨W5, hW5⟩ : ∃ W5, w4.alloc (.cells #[.string (bs []), .string (bs [])] 38) = W5 := ⟨_, rfl⟩
            have hA5 : Below w4.heap.size w4 W5 := by rw [← hW5]; exact (Below.refl _ _).alloc (Nat.le_refl _) _
            have b5 := b4.trans (hA5.mono b4.size)
            have n0 := mvc hA5 n0
            have d0 := mvc hA5 d0
            have d1 := mvc hA5 d1
            have u0 : W5.cell? ⟨w4.heap.size, 0, none⟩ = some (.string (bs [])) := by rw [← hW5]; simp
            have u1 : W5.cell? ⟨w4.heap.size, 1, none⟩ = some (.string (bs [])) := by rw [← hW5]; simp
            go_upto_region 13 with fail
            have hnil : (⟨#[]⟩ : ByteArray) = bs [] := rfl
            go_cut [98] (fun s98 wx => s98 = .bool false ∧ Below W5.heap.size W5 wx)
            case first =>
              go_quiet (fail)
              go_wp2
              go_meet
              exact ⟨rfl, ⟨rfl, rfl, rfl, Nat.le_refl _, fun k hk => rfl⟩⟩
            case rest =>
              obtain ⟨rfl, hb6⟩ := hcut
              have b6 := b5.trans (hb6.mono b5.size)
              have n0 := mvc hb6 n0
              have d0 := mvc hb6 d0
              have d1 := mvc hb6 d1
              clear u0 u1 hnil
              have hbX := hb'.trans (b6.mono hb'.size)
              have h1 : ∀ (k : Nat) (w' : World), (w'.cell? ⟨w.heap.size, 0, none⟩ = some (.string (bs name)) ∧ w'.cell? ⟨w.heap.size + 1, 0, none⟩ = some (.int .i64 id) ∧ w'.cell? ⟨w.heap.size + 1, 1, none⟩ = some (.string (bs ch)) ∧ Below wc.heap.size wc w') →
                  Hid (Calls Tryz.prog 22 #[errV 22 k, .int .i64 (k : Nat)] w' fun e w'' => e = .returned (.bool true) ∧ w''.cell? ⟨w.heap.size, 0, none⟩ = some (.string (bs name)) ∧ w''.cell? ⟨w.heap.size + 1, 0, none⟩ = some (.int .i64 id) ∧ w''.cell? ⟨w.heap.size + 1, 1, none⟩ = some (.string (bs ch)) ∧ Below wc.heap.size wc w'') := by
                intro k w' ⟨k0, k1, k2, k3⟩
                refine hid ((C7.out k w' (b6.trans (k3.mono b6.size))).out.mono ?_)
                rintro e w'' ⟨rfl, hb⟩
                exact ⟨rfl, mvc hb k0, mvc hb k1, mvc hb k2, k3.trans (hb.mono k3.size)⟩
              have h2 : ∀ (w' : World), (w'.cell? ⟨w.heap.size, 0, none⟩ = some (.string (bs name)) ∧ w'.cell? ⟨w.heap.size + 1, 0, none⟩ = some (.int .i64 id) ∧ w'.cell? ⟨w.heap.size + 1, 1, none⟩ = some (.string (bs ch)) ∧ Below wc.heap.size wc w') →
                  Hid (Calls Tryz.prog 23 #[.slice sa l.length sc, .string (bs name), .string (bs value), .agg #[.int .i64 id, .string (bs ch)]] w' fun e w'' => e = .returned (errV 22 K) ∧ w''.cell? ⟨w.heap.size, 0, none⟩ = some (.string (bs name)) ∧ w''.cell? ⟨w.heap.size + 1, 0, none⟩ = some (.int .i64 id) ∧ w''.cell? ⟨w.heap.size + 1, 1, none⟩ = some (.string (bs ch)) ∧ Below wc.heap.size wc w'') := by
                intro w' ⟨k0, k1, k2, k3⟩
                refine hid ((C5.out w' (b6.trans (k3.mono b6.size))).out.mono ?_)
                rintro e w'' ⟨rfl, hb⟩
                exact ⟨rfl, mvc hb k0, mvc hb k1, mvc hb k2, k3.trans (hb.mono k3.size)⟩
              have h3 : ∀ (w' : World), (w'.cell? ⟨w.heap.size, 0, none⟩ = some (.string (bs name)) ∧ w'.cell? ⟨w.heap.size + 1, 0, none⟩ = some (.int .i64 id) ∧ w'.cell? ⟨w.heap.size + 1, 1, none⟩ = some (.string (bs ch)) ∧ Below wc.heap.size wc w') →
                  Hid (Calls Tryz.prog 24 #[.slice sa l.length sc, .string (bs name), .string (bs value), .agg #[.int .i64 id, .string (bs ch)]] w' fun e w'' => e = .returned (.int .i64 (K : Nat)) ∧ w''.cell? ⟨w.heap.size, 0, none⟩ = some (.string (bs name)) ∧ w''.cell? ⟨w.heap.size + 1, 0, none⟩ = some (.int .i64 id) ∧ w''.cell? ⟨w.heap.size + 1, 1, none⟩ = some (.string (bs ch)) ∧ Below wc.heap.size wc w'') := by
                intro w' ⟨k0, k1, k2, k3⟩
                refine hid ((C6.out w' (b6.trans (k3.mono b6.size))).out.mono ?_)
                rintro e w'' ⟨rfl, hb⟩
                exact ⟨rfl, mvc hb k0, mvc hb k1, mvc hb k2, k3.trans (hb.mono k3.size)⟩
              have hd : Below wc.heap.size wc wc.drew := (Below.refl _ _).drew
              clear C5 C6 C7
              go_upto_region 15 with fail
              go_region_held3 (fun w' => w'.cell? ⟨w.heap.size, 0, none⟩ = some (.string (bs name)) ∧ w'.cell? ⟨w.heap.size + 1, 0, none⟩ = some (.int .i64 id) ∧ w'.cell? ⟨w.heap.size + 1, 1, none⟩ = some (.string (bs ch)) ∧ Below wc.heap.size wc w')
                (first | exact ⟨n0, d0, d1, hd⟩ | assumption | exact ⟨by assumption, by assumption, by assumption, by assumption⟩)
                (first
                  | (go_at_call 22; refine (h1 _ _ ?_).out.mono ?_; (first | assumption | exact ⟨n0, d0, d1, hd⟩ | exact ⟨by assumption, by assumption, by assumption, by assumption⟩); rintro e w7 ⟨rfl, i0, i1, i2, i3⟩)
                  | (go_at_call 23; refine (h2 _ ?_).out.mono ?_; (first | assumption | exact ⟨n0, d0, d1, hd⟩ | exact ⟨by assumption, by assumption, by assumption, by assumption⟩); rintro e w8 ⟨rfl, j0, j1, j2, j3⟩)
                  | (go_at_call 24; refine (h3 _ ?_).out.mono ?_; (first | assumption | exact ⟨n0, d0, d1, hd⟩ | exact ⟨by assumption, by assumption, by assumption, by assumption⟩); rintro e w9 ⟨rfl, m0, m1, m2, m3⟩))
              go_wp2_with fail
              go_ret
              refine ⟨rfl, hbX.trans (Below.mono ?_ hbX.size)⟩
              assumption
end
theorem chapChecks_row (v : Value) (l : PL) (name value : ByteArray) (id : Int) (ch : List UInt8) (w : World) (h : PSl w v l) (hbd : UBd l) (h1 : name.size ≤ 140737488355328) (h2 : value.size ≤ 140737488355328) (h3 : ch.length ≤ 140737488355328) (hL : laidMetH Tryz.prog Rows.chapChecksRow.laid w) (hsh : w.ShapedOpen Tryz.prog) :
    Calls Tryz.prog 4 #[v, .string name, .string value, .agg #[.int .i64 id, .string (bs ch)]] w fun e w' => e = .returned (.bool true) ∧ Below w.heap.size w w' := by
  have := chapChecks_law v l name.data.toList value.data.toList id ch w h hbd (by simpa using h1) (by simpa using h2) h3 (cardBase.etype_of_laid (by simp [Rows.chapChecksRow]) hL)
    (dt_of_tab (cardBase.tab_of_laid (n := 64) (t := 377) (e := 5) (L := Rows.chapChecksRow.laid) (by kernel_rfl) dbName (by kernel_rfl) Tryz.underlying377 Tryz.underlying5 (by kernel_rfl) (by kernel_rfl) hL))
    (lt_of_reads (reads_of_laid hL (by simp [Rows.chapChecksRow, Rows.laid_unicode_CaseRanges]) (by kernel_rfl)) (reads_of_laid hL (by simp [Rows.chapChecksRow, Rows.laid_unicode_utf8_first]) (by kernel_rfl)) (reads_of_laid hL (List.mem_of_getElem? (i := 3) (by kernel_rfl)) (by kernel_rfl)))
  rwa [bs_data, bs_data] at this
end Go.Proofs.YtejbigoacknfoaaGreatDoor
