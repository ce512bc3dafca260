/- All PDUs out of a feed: by the program. -/
import Derived.Test.YtfeenkofnbefaaaGreatDoorFeedNext
import Derived.Test.YtfeenkofnbefaaaGreatDoorAppendQ
import Derived.Test.YtfeenkofnbefaaaGreatDoorProg
import Derived.Test.YtfeenkofnbefaaaGreatDoorBase
import Derived.Lib.Bytealg
import Derived.Stop.Asserts
import Derived.RowKitTokens
set_option linter.unusedSectionVars false
set_option linter.unusedSimpArgs false
set_option linter.unusedVariables false
namespace Go.Proofs.YtfeenkofnbefaaaGreatDoor
open Go Go.RowKit
set_option linter.unusedVariables false
set_option linter.unusedSectionVars false
set_option linter.unusedSimpArgs false
set_option maxRecDepth 100000
/-- a piece, and where its two rows lie -/
abbrev PcX := FdR × (Option Addr × Nat) × (Option Addr × Nat)
def pcV (x : PcX) : Value := .slice x.2.1.1 x.1.pdu.vals.length x.2.1.2
def pcA (x : PcX) : Value := .slice x.2.2.1 x.1.pdu.ahs.length x.2.2.2
def pcCells (x : PcX) : List Value := [.int .i64 x.1.pdu.op, .bool x.1.pdu.now, .int .i64 x.1.pdu.flags, pcV x, pcA x, .string (bs x.1.pdu.data), .string (bs x.1.spoilt)]
def PcOk (W : World) (x : PcX) : Prop := Sl W (pcV x) 1 x.1.pdu.vals.length (u64Cells x.1.pdu.vals) ∧ Sl W (pcA x) 2 x.1.pdu.ahs.length (ahsCells x.1.pdu.ahs)
/-- which kind of value stands where in a row of pieces -/
def kind7 (r : Nat) (u : Value) : Prop := (r = 0 ∧ ∃ x, u = .int .i64 x) ∨ (r = 1 ∧ ∃ x, u = .bool x) ∨ (r = 2 ∧ ∃ x, u = .int .i64 x) ∨ (r = 3 ∧ ∃ a n c, u = .slice a n c) ∨ (r = 4 ∧ ∃ a n c, u = .slice a n c) ∨ (r = 5 ∧ ∃ s, u = .string s) ∨ (r = 6 ∧ ∃ s, u = .string s)
def zero7P : Array Value := #[.int .i64 0, .bool false, .int .i64 0, .slice none 0 0, .slice none 0 0, .string ⟨#[]⟩, .string ⟨#[]⟩]
theorem pcs_length (L : List PcX) : (L.flatMap pcCells).length = L.length * 7 := by
  induction L with
  | nil => rfl
  | cons x L ih => rw [List.flatMap_cons, List.length_append, ih]; simp [pcCells]; omega
theorem pcs_kind (L : List PcX) (i : Nat) (u : Value) (h : (L.flatMap pcCells)[i]? = some u) : kind7 (i % 7) u := by
  induction L generalizing i with
  | nil => simp at h
  | cons x L ih =>
    rw [List.flatMap_cons] at h
    by_cases hi : i < 7
    · rw [List.getElem?_append_left (by simpa [pcCells] using hi)] at h
      unfold kind7
      rcases i with _ | _ | _ | _ | _ | _ | _ | i
      · simp [pcCells] at h; subst h; simp
      · simp [pcCells] at h; subst h; simp
      · simp [pcCells] at h; subst h; simp
      · simp [pcCells] at h; subst h; simp [pcV]
      · simp [pcCells] at h; subst h; simp [pcA]
      · simp [pcCells] at h; subst h; simp
      · simp [pcCells] at h; subst h; simp
      · omega
    · rw [List.getElem?_append_right (by simp [pcCells]; omega)] at h
      have := ih (i - 7) (by simpa [pcCells] using h)
      rwa [show (i - 7) % 7 = i % 7 by omega] at this
theorem zero_kind (r : Nat) (hr : r < 7) : kind7 r zero7P[r]! := by
  unfold kind7
  rcases r with _ | _ | _ | _ | _ | _ | _ | r
  all_goals first | omega | simp [zero7P]
/-- a row of pieces that the call has laid -/
theorem row_kind {W : World} {B : Nat} {e : TypeId} {v : Value} {L : List PcX} (h : W.ownsRow B e 7 v L.length (L.flatMap pcCells)) (hs : SpareZ W 7 zero7P v L.length) {g : Nat} (hv : v.ownBlock = some g) : ∀ i u, W.cell? ⟨g, i, none⟩ = some u → kind7 (i % 7) u := by
  intro i u hu
  rcases h.2 with ⟨rfl, _⟩ | ⟨g', cap, cur, rfl, hbg, hg, hnc, hcm, hcs, htake⟩
  · cases hv
  · have : g' = g := by simpa [Value.ownBlock] using hv
    subst this
    rw [cell_of_row W g' i cur e (0, 0) hg] at hu
    by_cases hi : i < L.length * 7
    · refine pcs_kind L i u ?_
      rw [← htake, List.getElem?_take, if_pos hi]
      simpa using hu
    · rw [hs g' cur e (0, 0) hv hg i u (by omega) hu]
      exact zero_kind _ (Nat.mod_lt _ (by omega))
theorem u64_farK {W : World} {v : Value} {xs : List Nat} (h : Sl W v 1 xs.length (u64Cells xs)) {g : Nat} (hk : ∀ i u, W.cell? ⟨g, i, none⟩ = some u → kind7 (i % 7) u) :
    ∀ b o q, v = .slice (some ⟨b, o, none⟩) xs.length q → xs.length ≠ 0 → b ≠ g := by
  rintro b o q rfl h0 rfl
  obtain ⟨b', o', c', e, _, hcc⟩ := vals_open h (by omega)
  cases e
  have h1 := hk _ _ (hcc 0 xs[0] (List.getElem?_eq_getElem (by omega)))
  simp [kind7] at h1
theorem ahs_farK {W : World} {v : Value} {xs : List (Nat × List UInt8)} (h : Sl W v 2 xs.length (ahsCells xs)) {g : Nat} (hk : ∀ i u, W.cell? ⟨g, i, none⟩ = some u → kind7 (i % 7) u) :
    ∀ b o q, v = .slice (some ⟨b, o, none⟩) xs.length q → xs.length ≠ 0 → b ≠ g := by
  rintro b o q rfl h0 rfl
  obtain ⟨a', c', e, _, hcc⟩ := h
  cases e
  rcases hcc with hcc | ⟨b', o', e, hcc⟩
  · exact h0 hcc
  · cases e
    cases xs with
    | nil => exact h0 rfl
    | cons x xs =>
      have h1 := hk _ _ (hcc 0 _ rfl)
      have h2 := hk _ _ (hcc 1 _ rfl)
      simp [kind7] at h1 h2
      omega
theorem sl_grown {W W' : World} {v : Value} {size n : Nat} {xs : List Value} (h : Sl W v size n xs) (hs : 0 < size) {row : Option Nat} (hg : W.grownBy W' row) (hd : ∀ b o c, v = .slice (some ⟨b, o, none⟩) n c → n ≠ 0 → some b ≠ row) : Sl W' v size n xs := by
  obtain ⟨a, c, rfl, hl, hc⟩ := h
  refine ⟨a, c, rfl, hl, ?_⟩
  rcases hc with hc | ⟨b, o, rfl, hc⟩
  · exact .inl hc
  · by_cases hn : n = 0
    · exact .inl hn
    · exact .inr ⟨b, o, rfl, fun j u hu => hg.cell (hc j u hu) (hd b o c rfl hn)⟩
theorem pcOk_grown {W W' : World} {x : PcX} (h : PcOk W x) {row : Option Nat} (hg : W.grownBy W' row) (h1 : ∀ b o c, pcV x = .slice (some ⟨b, o, none⟩) x.1.pdu.vals.length c → x.1.pdu.vals.length ≠ 0 → some b ≠ row) (h2 : ∀ b o c, pcA x = .slice (some ⟨b, o, none⟩) x.1.pdu.ahs.length c → x.1.pdu.ahs.length ≠ 0 → some b ≠ row) : PcOk W' x :=
  ⟨sl_grown h.1 (by omega) hg h1, sl_grown h.2 (by omega) hg h2⟩
/-- .. over a feed's block -/
theorem pcOk_feed {W W' : World} {x : PcX} (h : PcOk W x) {g : Nat} {kept : List UInt8} {limit : Nat} {mode : Int} {bad : Nat} (hF : FeedB W g kept limit mode bad) (hg : W.grownBy W' (some g)) : PcOk W' x :=
  pcOk_grown h hg (fun b o c e hn he => u64_far h.1 hF (feed_nou _ _ _ _) b o c e hn (Option.some.inj he)) (fun b o c e hn he => ahs_far' h.2 hF (feed_noa _ _ _ _) b o c e hn (Option.some.inj he))
theorem pcOk_below {W W' : World} {x : PcX} (h : PcOk W x) (hb : Below W.heap.size W W') : PcOk W' x := ⟨h.1.below (by omega) hb, h.2.below (by omega) hb⟩
theorem infoPiece : (Tryz.prog.info? 42).map (fun i => (i.zero, i.size, i.bytes)) = some (some (.agg zero7P), 7, 104) := by kernel_rfl
theorem cells_new (w : World) (cs : List Value) (T : TypeId) : ∀ j u, cs[j]? = some u → (w.alloc (.cells cs.toArray T)).cell? ((⟨w.heap.size, 0, none⟩ : Addr).add j) = some u := by
  intro j u hu
  have e : (⟨w.heap.size, 0, none⟩ : Addr).add j = ⟨w.heap.size, j, none⟩ := by unfold Addr.add; split <;> simp <;> omega
  rw [e, cell_of_row _ _ _ _ _ _ (heap_alloc_new w _)]
  simpa using hu
theorem cells_new1 (w : World) (o : Obj) (cs : List Value) (T : TypeId) : ∀ j u, cs[j]? = some u → ((w.alloc o).alloc (.cells cs.toArray T)).cell? ((⟨w.heap.size + 1, 0, none⟩ : Addr).add j) = some u := by
  intro j u hu
  have := cells_new (w.alloc o) cs T j u hu
  rwa [show (w.alloc o).heap.size = w.heap.size + 1 by simp] at this
theorem grownM {w a b : World} {g : Nat} {row : Option Nat} (h : w.grownBy a (some g)) (h2 : a.grownBy b row) (hr : ∀ k, row = some k → w.heap.size ≤ k ∨ k = g) : w.grownBy b (some g) :=
  ⟨h2.os.trans h.os, h2.tape.trans h.tape, h2.output.trans h.output, Nat.le_trans h.size h2.size, fun k hk hne => (h2.block k (Nat.lt_of_lt_of_le hk h.size) (fun e => by
    rcases hr k e.symm with h' | h'
    · omega
    · exact hne (by rw [h']))).trans (h.block k hk hne)⟩
def FAllPost (s : List UInt8 × Nat) (g limit : Nat) (mode : Int) (w : World) (e : Ending) (w' : World) : Prop :=
  ∃ (L : List PcX) (v : Value), e = .returned (.tuple #[v, errV 31 (outP limit mode s L.length).e]) ∧ (∀ k x, L[k]? = some x → x.1 = outP limit mode s k ∧ x.1.ok = true) ∧ (outP limit mode s L.length).ok = false ∧
    Sl w' v 7 L.length (L.flatMap pcCells) ∧ (∀ x ∈ L, PcOk w' x) ∧ FeedB w' g (outP limit mode s L.length).kept limit mode (outP limit mode s L.length).bad ∧ w.grownBy w' (some g)
def RA (s : List UInt8 × Nat) (g limit : Nat) (mode : Int) (w : World) (out : Value) (wr : World) : Prop :=
  ∃ L : List PcX, wr.ownsRow w.heap.size 42 7 out L.length (L.flatMap pcCells) ∧ SpareZ wr 7 zero7P out L.length ∧ (∀ k x, L[k]? = some x → x.1 = outP limit mode s k ∧ x.1.ok = true) ∧ (∀ x ∈ L, PcOk wr x) ∧
    FeedB wr g (seqP limit mode s L.length).1 limit mode (seqP limit mode s L.length).2 ∧ w.grownBy wr (some g)
section
variable (g limit : Nat) (mode : Int) (s : List UInt8 × Nat) (w : World) (hB : FeedB w g s.1 limit mode s.2) (hl : s.1.length ≤ 1000000) (hm : 0 ≤ mode ∧ mode ≤ 3) (hlim : limit ≤ 100000) (hK : ∀ W, w.grownBy W (some g) → EType W ∧ AS W ∧ PT W)
include hB hl hm hlim hK
set_option maxHeartbeats 8000000 in
theorem fall_any : Calls Tryz.prog 15 #[.pointer (some ⟨g, 0, none⟩)] w fun e w' => FAllPost s g limit mode w e w' := by
  have hgw : g < w.heap.size := Blk.lt hB
  have HB := hid hB; have HK := hid hK; clear hB hK
  go_enter Tryz.func15, Tryz.ntmps15
  go_wp2
  go_loopw [4] (fun out wr => RA s g limit mode w out wr) (fun _ wr => strLen ((wr.cell? ⟨g, 0, none⟩).getD .nilIface))
  case atStart => exact ⟨[], World.ownsRow_nil _ _ _ _, fun g cur t fr h => absurd h (by simp [Value.ownBlock]), by simp, by simp, HB.out, grownR w _⟩
  case round =>
    obtain ⟨L, hown, hsp, hL, hok, hF, hG⟩ := hrel
    have hall : ∀ j, j < L.length → (outP limit mode s j).ok = true := by
      intro j hj
      have := hL j L[j] (List.getElem?_eq_getElem hj)
      rw [← this.1]; exact this.2
    have hlen := seqP_len limit mode s hm L.length hall
    obtain ⟨kE, kA, kP⟩ := HK.out wr hG
    have cn0 := fnext_any g limit mode (seqP limit mode s L.length).1 (seqP limit mode s L.length).2 wr hF (by omega) hm hlim kE kA kP
    unfold FNextPost at cn0
    have hokk := feedP_ok (seqP limit mode s L.length).1 limit mode (seqP limit mode s L.length).2 hm
    have hkc := Blk.cell hF 0
    have hkc : wr.cell? ⟨g, 0, none⟩ = some (.string (bs (seqP limit mode s L.length).1)) := hkc.trans rfl
    change _ → _ at hokk
    have hRr : feedP (seqP limit mode s L.length).1 limit mode (seqP limit mode s L.length).2 = outP limit mode s L.length := rfl
    rw [hRr] at cn0 hokk
    have hsucc := seqP_succ limit mode s L.length
    have cn := hid cn0
    generalize hO : outP limit mode s L.length = R at *
    clear cn0 hRr kE kA kP hall
    have HL := hid hL; have HOK := hid hok; have HO := hid hO
    have HSU := hid hsucc
    clear hL hok hO hsucc
    go_wp2_with fail
    refine cn.out.mono ?_
    rintro e w2 ⟨v, av, rfl, hv, hav, hF2, hG2⟩
    have hne : u4.ownBlock = none ∨ u4.ownBlock ≠ some g := by
      cases hv4 : u4.ownBlock with
      | none => exact .inl rfl
      | some k =>
        right
        have := (hown.lt k hv4).1
        intro e; cases e; omega
    have hown2 := hown.kept hG2 hne
    have hsp2 := hsp.kept (fun k hk => (hown.lt k hk).2) hG2 hne
    have hok2 : ∀ x ∈ L, PcOk w2 x := fun x hx => pcOk_feed (HOK.out x hx) hF hG2
    have hG3 := grownT hG hG2
    have hv0 := hv
    have hav0 := hav
    obtain ⟨sa, sc, rfl, _⟩ := hv
    obtain ⟨aa, ac, rfl, _⟩ := hav
    have hx0 : PcOk w2 (R, (sa, sc), (aa, ac)) := ⟨hv0, hav0⟩
    have HX0 := hid hx0; have HOK2 := hid hok2; have HSP := hid hsp2; have HOW := hid hown2; have HF2 := hid hF2
    have HLT := hid hown2.lt
    clear hv0 hav0 hx0 hok2 hown hsp hF HOK cn hG2 hne hG
    unfold pieceV
    cases hk : R.ok with
    | true =>
      obtain ⟨h48, hb0, he0⟩ := hokk hk
      rw [he0, errV_zero]
      have hB2 : w.heap.size ≤ w2.heap.size := hG3.size
      go_wp2_with (at_builtin; refine list_append_ownQ rfl (.tmp 22) (.tmp 24) 51 rfl w.heap.size 42 (.agg zero7P) 7 104 Tryz.underlying51 infoPiece rfl (by decide) _ L.length (L.flatMap pcCells) rfl ((HOW.out.alloc _).alloc _) ((HSP.out.kept (fun k hk => (HLT.out k hk).2) (World.grownBy_alloc _ _ none) (by cases u4.ownBlock <;> simp)).kept (fun k hk => Nat.lt_of_lt_of_le (HLT.out k hk).2 (by simp)) (World.grownBy_alloc _ _ none) (by cases u4.ownBlock <;> simp)) ⟨w2.heap.size + 1, 0, none⟩ 1 1 (pcCells (R, (sa, sc), (aa, ac))) rfl rfl (cells_new1 _ _ (pcCells (R, (sa, sc), (aa, ac))) _) (by simp [pcCells, pcV, pcA, Value.oneCell']) (by omega) (by unfold maxLen; omega) (by omega) (by simp; omega) ?_; intro v' w3 hown3 hgrow hsp3)
      have hA1 := (Below.refl w2.heap.size w2).alloc (Nat.le_refl _) (.cells #[.int .i64 R.pdu.op, .bool R.pdu.now, .int .i64 R.pdu.flags, .slice sa R.pdu.vals.length sc, .slice aa R.pdu.ahs.length ac, .string (bs R.pdu.data), .string (bs R.spoilt)] 42)
      have hA2 := (Below.refl (w2.alloc (.cells #[.int .i64 R.pdu.op, .bool R.pdu.now, .int .i64 R.pdu.flags, .slice sa R.pdu.vals.length sc, .slice aa R.pdu.ahs.length ac, .string (bs R.pdu.data), .string (bs R.spoilt)] 42)).heap.size (w2.alloc (.cells #[.int .i64 R.pdu.op, .bool R.pdu.now, .int .i64 R.pdu.flags, .slice sa R.pdu.vals.length sc, .slice aa R.pdu.ahs.length ac, .string (bs R.pdu.data), .string (bs R.spoilt)] 42))).alloc (Nat.le_refl _) (.cells #[.int .i64 R.pdu.op, .bool R.pdu.now, .int .i64 R.pdu.flags, .slice sa R.pdu.vals.length sc, .slice aa R.pdu.ahs.length ac, .string (bs R.pdu.data), .string (bs R.spoilt)] 42)
      have hA := hA1.trans (hA2.mono hA1.size)
      have hownA : ((w2.alloc (.cells #[.int .i64 R.pdu.op, .bool R.pdu.now, .int .i64 R.pdu.flags, .slice sa R.pdu.vals.length sc, .slice aa R.pdu.ahs.length ac, .string (bs R.pdu.data), .string (bs R.spoilt)] 42)).alloc (.cells #[.int .i64 R.pdu.op, .bool R.pdu.now, .int .i64 R.pdu.flags, .slice sa R.pdu.vals.length sc, .slice aa R.pdu.ahs.length ac, .string (bs R.pdu.data), .string (bs R.spoilt)] 42)).ownsRow w.heap.size 42 7 u4 L.length (L.flatMap pcCells) := owns_below HOW.out hA
      have hspA : SpareZ ((w2.alloc (.cells #[.int .i64 R.pdu.op, .bool R.pdu.now, .int .i64 R.pdu.flags, .slice sa R.pdu.vals.length sc, .slice aa R.pdu.ahs.length ac, .string (bs R.pdu.data), .string (bs R.spoilt)] 42)).alloc (.cells #[.int .i64 R.pdu.op, .bool R.pdu.now, .int .i64 R.pdu.flags, .slice sa R.pdu.vals.length sc, .slice aa R.pdu.ahs.length ac, .string (bs R.pdu.data), .string (bs R.spoilt)] 42)) 7 zero7P u4 L.length := HSP.out.kept (row := none) (fun k hk => (HLT.out k hk).2) (grownL hA (Nat.le_refl _) none) (by cases u4.ownBlock <;> simp)
      have hFA := Blk.below HF2.out hA
      have hGA := grownT hG3 (grownL hA (Nat.le_refl _) (some g))
      have hokA : ∀ x ∈ L ++ [(R, (sa, sc), (aa, ac))], PcOk ((w2.alloc (.cells #[.int .i64 R.pdu.op, .bool R.pdu.now, .int .i64 R.pdu.flags, .slice sa R.pdu.vals.length sc, .slice aa R.pdu.ahs.length ac, .string (bs R.pdu.data), .string (bs R.spoilt)] 42)).alloc (.cells #[.int .i64 R.pdu.op, .bool R.pdu.now, .int .i64 R.pdu.flags, .slice sa R.pdu.vals.length sc, .slice aa R.pdu.ahs.length ac, .string (bs R.pdu.data), .string (bs R.spoilt)] 42)) x := by
        intro x hx
        rcases List.mem_append.1 hx with hx | hx
        · exact pcOk_below (HOK2.out x hx) hA
        · rw [List.mem_singleton.1 hx]; exact pcOk_below HX0.out hA
      have hneA : some g ≠ u4.ownBlock := by
        intro e
        have := (HLT.out g e.symm).1
        omega
      have hok3 : ∀ x ∈ L ++ [(R, (sa, sc), (aa, ac))], PcOk w3 x := by
        intro x hx
        have hx' := hokA x hx
        refine pcOk_grown hx' hgrow (fun b o c e hn he => ?_) (fun b o c e hn he => ?_)
        · exact u64_farK hx'.1 (row_kind hownA hspA he.symm) b o c e hn rfl
        · exact ahs_farK hx'.2 (row_kind hownA hspA he.symm) b o c e hn rfl
      have hF3 : FeedB w3 g R.kept limit mode R.bad := (hgrow.block g (Blk.lt hFA) hneA).trans hFA
      have hG4 : w.grownBy w3 (some g) := grownM hGA hgrow (fun k hk => .inl (HLT.out k hk).1)
      have hkc3 : w3.cell? ⟨g, 0, none⟩ = some (.string (bs R.kept)) := (Blk.cell hF3 0).trans rfl
      have hL3 : ∀ k x, (L ++ [(R, (sa, sc), (aa, ac))])[k]? = some x → x.1 = outP limit mode s k ∧ x.1.ok = true := by
        intro k x hx
        by_cases hkl : k < L.length
        · rw [List.getElem?_append_left hkl] at hx
          exact HL.out k x hx
        · rw [List.getElem?_append_right (by omega)] at hx
          have hk0 : k - L.length = 0 := by
            cases hq : k - L.length with
            | zero => rfl
            | succ q => rw [hq] at hx; simp at hx
          rw [hk0] at hx
          have hx : (R, (sa, sc), (aa, ac)) = x := by simpa using hx
          subst hx
          obtain rfl : k = L.length := by omega
          exact ⟨HO.out.symm, hk⟩
      have hown4 : w3.ownsRow w.heap.size 42 7 v' (L ++ [(R, (sa, sc), (aa, ac))]).length ((L ++ [(R, (sa, sc), (aa, ac))]).flatMap pcCells) := by
        have e1 : (L ++ [(R, (sa, sc), (aa, ac))]).flatMap pcCells = L.flatMap pcCells ++ pcCells (R, (sa, sc), (aa, ac)) := by simp
        rw [e1]
        simpa using hown3
      have hsp4 : SpareZ w3 7 zero7P v' (L ++ [(R, (sa, sc), (aa, ac))]).length := by
        rw [show (L ++ [(R, (sa, sc), (aa, ac))]).length = L.length + 1 by simp]
        exact hsp3
      have hF4 : FeedB w3 g (seqP limit mode s (L ++ [(R, (sa, sc), (aa, ac))]).length).1 limit mode (seqP limit mode s (L ++ [(R, (sa, sc), (aa, ac))]).length).2 := by
        have e1 : (L ++ [(R, (sa, sc), (aa, ac))]).length = L.length + 1 := by simp
        rw [e1, HSU.out]
        exact hF3
      have KEY : RA s g limit mode w v' w3 := ⟨_, hown4, hsp4, hL3, hok3, hF4, hG4⟩
      have HKEY := hid KEY
      clear KEY hown4 hsp4 hL3 hok3 hF4 hG4 hF3 hneA hokA hGA hFA hspA hownA hA hA1 hA2 hown3 hgrow hsp3
      go_roundw
      case rel => exact HKEY.out
      case measure =>
        rw [hkc3, hkc]
        simp only [Option.getD_some, strLen, bs_size]
        omega
    | false =>
      have hA1 := (Below.refl w2.heap.size w2).alloc (Nat.le_refl _) (.cells #[.int .i64 R.pdu.op, .bool R.pdu.now, .int .i64 R.pdu.flags, .slice sa R.pdu.vals.length sc, .slice aa R.pdu.ahs.length ac, .string (bs R.pdu.data), .string (bs R.spoilt)] 42)
      have hG4 := grownT hG3 (grownL hA1 (Nat.le_refl _) (some g))
      have KEY : FAllPost s g limit mode w (.returned (.tuple #[u4, errV 31 R.e])) (w2.alloc (.cells #[.int .i64 R.pdu.op, .bool R.pdu.now, .int .i64 R.pdu.flags, .slice sa R.pdu.vals.length sc, .slice aa R.pdu.ahs.length ac, .string (bs R.pdu.data), .string (bs R.spoilt)] 42)) := by
        refine ⟨L, u4, by rw [HO.out], HL.out, by rw [HO.out]; exact hk, sl_of_owns (owns_below HOW.out hA1), fun x hx => pcOk_below (HOK2.out x hx) hA1, ?_, hG4⟩
        rw [HO.out]
        exact Blk.below HF2.out hA1
      have HKEY := hid KEY
      clear KEY hG4 hA1
      by_cases he : R.e = 0
      · rw [he, errV_zero] at HKEY ⊢
        go_wp2
        go_ret2
        exact HKEY.out
      · rw [errV_pos _ _ (by omega)] at HKEY ⊢
        go_wp2
        go_ret2
        exact HKEY.out
end
end Go.Proofs.YtfeenkofnbefaaaGreatDoor

namespace Go.Proofs.YtfeenkofnbefaaaGreatDoor
open Go.RowKit
set_option linter.unusedVariables false
set_option maxRecDepth 100000
theorem count_any (l : List UInt8) (w : World) (hl : l.length ≤ 1000000) :
    Calls Tryz.prog 110 #[.string (bs l), .string ⟨#[0]⟩] w fun e w' => e = .returned (.int .i64 (l.count 0 : Nat)) ∧ w' = w := by
  have hz : (⟨#[0]⟩ : ByteArray) = bs [0] := rfl
  rw [hz]
  have hrun : ∀ w, (callFunc 138 #[.string (bs l), .int .u8 0]).run Tryz.prog w = .ok (.value (.int .i64 (l.count 0 : Nat))) w := by
    intro w
    rw [run_callFunc_extern (e := Extern.BytealgCount.count) Tryz.func138 (by kernel_rfl) (by kernel_rfl) (by kernel_rfl) (by kernel_rfl), Lib.run_countString]
    simp [Result.andThen, Lib.countByte, bs]
  generalize l.count 0 = n at *
  go_enter Tryz.func110, Tryz.ntmps110
  go_wp2
  go_ret
  exact ⟨rfl, rfl⟩
theorem count_zero (l : List UInt8) : l.count 0 = l.length ↔ l = List.replicate l.length 0 := by
  rw [List.count_eq_length, List.eq_replicate_iff]
  constructor
  · intro h; exact ⟨rfl, fun b hb => (h b hb).symm⟩
  · intro h b hb; exact (h.2 b hb).symm
end Go.Proofs.YtfeenkofnbefaaaGreatDoor
