/- Travel: the document's rules: their list, as a row; what numbers keep them. -/
import Derived.Test.YtldodmfmibeoiaaDoorV17
import Derived.Test.YtldodmfmibeoiaaDoorP10
namespace Go.Proofs.YtldodmfmibeoiaaDoor
open Go.RowKit
def rulNews (n : Nat) (f : Nat → Rul) : List Value := (List.range n).flatMap fun i => [.int .i64 ((f i).a : Nat), .int .i64 ((f i).b : Nat), .int .i64 (f i).m]
theorem rulNews_succ (n : Nat) (f : Nat → Rul) : rulNews (n + 1) f = rulNews n f ++ [.int .i64 ((f n).a : Nat), .int .i64 ((f n).b : Nat), .int .i64 (f n).m] := by simp [rulNews, List.range_succ, List.flatMap_append]
theorem rulNews_length (n : Nat) (f : Nat → Rul) : (rulNews n f).length = n * 3 := by
  induction n with
  | zero => rfl
  | succ n ih => rw [rulNews_succ, List.length_append, ih]; simp; omega
theorem rulNews_get {n : Nat} {f : Nat → Rul} {i : Nat} (hi : i < n) : (rulNews n f)[i * 3]? = some (.int .i64 ((f i).a : Nat)) ∧ (rulNews n f)[i * 3 + 1]? = some (.int .i64 ((f i).b : Nat)) ∧ (rulNews n f)[i * 3 + 1 + 1]? = some (.int .i64 (f i).m) := by
  induction n with
  | zero => omega
  | succ n ih =>
    rw [rulNews_succ]
    have hl := rulNews_length n f
    by_cases h : i = n
    · subst h
      rw [List.getElem?_append_right (by omega), List.getElem?_append_right (by omega), List.getElem?_append_right (by omega), hl]
      simp [show i * 3 + 1 + 1 - i * 3 = 2 by omega]
    · obtain ⟨h0, h1, h2⟩ := ih (by omega)
      rw [List.getElem?_append_left (by omega), List.getElem?_append_left (by omega), List.getElem?_append_left (by omega)]
      exact ⟨h0, h1, h2⟩
theorem rulNews_congr {f g : Nat → Rul} : ∀ {n}, (∀ i, i < n → f i = g i) → rulNews n f = rulNews n g
  | 0, _ => rfl
  | n + 1, h => by rw [rulNews_succ, rulNews_succ, rulNews_congr (fun i hi => h i (by omega)), h n (by omega)]
/-- a row of rules, in memory -/
def RulsAt (w : World) (oa : Option Addr) (n : Nat) (f : Nat → Rul) : Prop :=
  ∀ i, i < n → ∃ b off, oa = some ⟨b, off, none⟩ ∧ b < w.heap.size ∧ w.cell? ⟨b, off + i * 3, none⟩ = some (.int .i64 ((f i).a : Nat)) ∧ w.cell? ⟨b, off + i * 3 + 1, none⟩ = some (.int .i64 ((f i).b : Nat)) ∧ w.cell? ⟨b, off + i * 3 + 1 + 1, none⟩ = some (.int .i64 (f i).m)
theorem RulsAt.mono {w w' : World} {oa : Option Addr} {n : Nat} {f : Nat → Rul} (h : RulsAt w oa n f) (hb : Below w.heap.size w w') : RulsAt w' oa n f := fun i hi => by
  obtain ⟨b, off, ha, hlt, h0, h1, h2⟩ := h i hi
  exact ⟨b, off, ha, Nat.lt_of_lt_of_le hlt hb.size, (hb.cell (p := ⟨b, off + i * 3, none⟩) hlt).trans h0, (hb.cell (p := ⟨b, off + i * 3 + 1, none⟩) hlt).trans h1, (hb.cell (p := ⟨b, off + i * 3 + 1 + 1, none⟩) hlt).trans h2⟩
theorem owns_ruls {w : World} {base e n : Nat} {v : Value} {f : Nat → Rul} (h : w.ownsRow base e 3 v n (rulNews n f)) : ∃ oa cap, v = .slice oa n cap ∧ RulsAt w oa n f ∧ ∀ a, oa = some a → base ≤ a.block := by
  have hb : ∀ oa cap, v = .slice oa n cap → ∀ a, oa = some a → base ≤ a.block := fun oa cap e a ha => by subst e; exact owns_base h a ha
  obtain ⟨oa, cap, rfl, hx⟩ := owns_form h
  refine ⟨oa, cap, rfl, fun i hi => ?_, hb _ _ rfl⟩
  obtain ⟨h0, h1, h2⟩ := rulNews_get (f := f) hi
  obtain ⟨k, e0, hk, g0⟩ := hx _ _ h0
  obtain ⟨k1, e1, -, g1⟩ := hx _ _ h1
  obtain ⟨k2, e2, -, g2⟩ := hx _ _ h2
  subst e0
  cases e1
  cases e2
  exact ⟨k, 0, rfl, hk, by rw [Nat.zero_add]; exact g0, by rw [Nat.zero_add]; exact g1, by rw [Nat.zero_add]; exact g2⟩
/-- two rules more -/
def put2R (c : Nat) (f : Nat → Rul) (u v : Rul) : Nat → Rul := fun i => if i = c then u else if i = c + 1 then v else f i
theorem rulNews_put (c : Nat) (f : Nat → Rul) (u v : Rul) : rulNews c f ++ [.int .i64 (u.a : Nat), .int .i64 (u.b : Nat), .int .i64 u.m, .int .i64 (v.a : Nat), .int .i64 (v.b : Nat), .int .i64 v.m] = rulNews (c + 2) (put2R c f u v) := by
  have e0 : put2R c f u v c = u := if_pos rfl
  have e1 : put2R c f u v (c + 1) = v := by unfold put2R; rw [if_neg (by omega), if_pos rfl]
  have e2 : rulNews c (put2R c f u v) = rulNews c f := rulNews_congr fun i hi => by unfold put2R; rw [if_neg (by omega), if_neg (by omega)]
  rw [show c + 2 = (c + 1) + 1 from rfl, rulNews_succ, rulNews_succ, e0, e1, e2, List.append_assoc]
  rfl
theorem solR_put {c : Nat} {f : Nat → Rul} {u v : Rul} {x : Nat → Int} : SolR (put2R c f u v) (c + 2) x ↔ SolR f c x ∧ x u.a - x u.b ≤ u.m ∧ x v.a - x v.b ≤ v.m := by
  have e0 : put2R c f u v c = u := if_pos rfl
  have e1 : put2R c f u v (c + 1) = v := by unfold put2R; rw [if_neg (by omega), if_pos rfl]
  have e2 : ∀ i, i < c → put2R c f u v i = f i := fun i hi => by unfold put2R; rw [if_neg (by omega), if_neg (by omega)]
  constructor
  · intro h
    refine ⟨fun j hj => ?_, ?_, ?_⟩
    · have := h j (by omega); rw [e2 j hj] at this; exact this
    · have := h c (by omega); rw [e0] at this; exact this
    · have := h (c + 1) (by omega); rw [e1] at this; exact this
  · intro ⟨h, h1, h2⟩ j hj
    by_cases h9 : j = c
    · subst h9; rw [e0]; exact h1
    · by_cases h8 : j = c + 1
      · subst h8; rw [e1]; exact h2
      · rw [e2 j (by omega)]; exact h j (by omega)
/-- the rules of benches -/
def benR (most off : Int) : Nat → Nat × (Nat → Rul)
  | 0 => (0, fun _ => ⟨0, 0, 0⟩)
  | k + 1 => if (k : Int) = off then benR most off k else ((benR most off k).1 + 2, put2R (benR most off k).1 (benR most off k).2 ⟨1 + k, 0, most⟩ ⟨0, 1 + k, most⟩)
/-- the rules of trips -/
def tripR (nb : Nat) (t : Nat → Trp) (s : Nat × (Nat → Rul)) : Nat → Nat × (Nat → Rul)
  | 0 => s
  | k + 1 => ((tripR nb t s k).1 + 2, put2R (tripR nb t s k).1 (tripR nb t s k).2 ⟨1 + nb + (t k).m.toNat, 1 + (t k).b.toNat, (t k).hi⟩ ⟨1 + (t k).b.toNat, 1 + nb + (t k).m.toNat, -(t k).lo⟩)
def Rnd.rulesR (r : Rnd) (off : Int) (n : Nat) (t : Nat → Trp) : Nat × (Nat → Rul) := tripR r.nb.toNat t (benR r.most off r.nb.toNat) n
theorem benR_le (most off : Int) : ∀ k, (benR most off k).1 ≤ 2 * k
  | 0 => Nat.le_refl _
  | k + 1 => by
    have := benR_le most off k
    unfold benR
    split
    · omega
    · show _ + 2 ≤ _; omega
theorem tripR_le (nb : Nat) (t : Nat → Trp) (s : Nat × (Nat → Rul)) : ∀ k, (tripR nb t s k).1 ≤ s.1 + 2 * k
  | 0 => Nat.le_refl _
  | k + 1 => by
    have := tripR_le nb t s k
    unfold tripR
    show _ + 2 ≤ _
    omega
theorem Rnd.rulesR_le (r : Rnd) (off : Int) (n : Nat) (t : Nat → Trp) (hb : r.nb ≤ 6) : (r.rulesR off n t).1 ≤ 12 + 2 * n := by
  have h1 := tripR_le r.nb.toNat t (benR r.most off r.nb.toNat) n
  have h2 := benR_le r.most off r.nb.toNat
  unfold Rnd.rulesR
  omega
/-- what rules speak of -/
def FineR (N : Nat) (s : Nat × (Nat → Rul)) : Prop := ∀ j, j < s.1 → ((s.2 j).a < N ∧ (s.2 j).b < N) ∧ -100000 ≤ (s.2 j).m ∧ (s.2 j).m ≤ 100000
theorem FineR.put {N c : Nat} {f : Nat → Rul} {u v : Rul} (h : FineR N (c, f)) (hu : (u.a < N ∧ u.b < N) ∧ -100000 ≤ u.m ∧ u.m ≤ 100000) (hv : (v.a < N ∧ v.b < N) ∧ -100000 ≤ v.m ∧ v.m ≤ 100000) : FineR N (c + 2, put2R c f u v) := fun j hj => by
  simp only at hj ⊢
  unfold put2R
  by_cases h9 : j = c
  · rw [if_pos h9]; exact hu
  · rw [if_neg h9]
    by_cases h8 : j = c + 1
    · rw [if_pos h8]; exact hv
    · rw [if_neg h8]; exact h j (by omega)
theorem benR_fine {most off : Int} {N : Nat} (h0 : 0 ≤ most) (h1 : most ≤ 100000) : ∀ k, k < N → FineR N (benR most off k)
  | 0, _ => fun j hj => by simp [benR] at hj
  | k + 1, hk => by
    have ih := benR_fine h0 h1 (off := off) (N := N) k (by omega)
    unfold benR
    split
    · exact ih
    · exact FineR.put (u := ⟨1 + k, 0, most⟩) (v := ⟨0, 1 + k, most⟩) ih ⟨⟨by show 1 + k < N; omega, by show 0 < N; omega⟩, by show _ ≤ most; omega, h1⟩ ⟨⟨by show 0 < N; omega, by show 1 + k < N; omega⟩, by show _ ≤ most; omega, h1⟩
theorem tripR_fine {nb nm : Nat} {t : Nat → Trp} {s : Nat × (Nat → Rul)} (hs : FineR (1 + nb + nm) s) : ∀ n, (∀ k, k < n → (t k).b.toNat < nb ∧ (t k).m.toNat < nm ∧ -100000 ≤ (t k).lo ∧ (t k).lo ≤ (t k).hi ∧ (t k).hi ≤ 100000) → FineR (1 + nb + nm) (tripR nb t s n)
  | 0, _ => hs
  | k + 1, h => by
    have ih := tripR_fine hs k fun j hj => h j (by omega)
    have h9 := h k (by omega)
    exact ih.put ⟨⟨by show 1 + nb + _ < _; omega, by show 1 + _ < _; omega⟩, by show _ ≤ (t k).hi; omega, by show (t k).hi ≤ _; omega⟩ ⟨⟨by show 1 + _ < _; omega, by show 1 + nb + _ < _; omega⟩, by show _ ≤ -(t k).lo; omega, by show -(t k).lo ≤ _; omega⟩
theorem benR_sol {most off : Int} {x : Nat → Int} : ∀ k, SolR (benR most off k).2 (benR most off k).1 x ↔ ∀ b : Nat, b < k → (b : Int) ≠ off → x (1 + b) - x 0 ≤ most ∧ x 0 - x (1 + b) ≤ most
  | 0 => ⟨fun _ b hb => by omega, fun _ j hj => by simp [benR] at hj⟩
  | k + 1 => by
    have ih := benR_sol (most := most) (off := off) (x := x) k
    unfold benR
    split
    · rename_i h9
      exact ih.trans ⟨fun h b hb hne => h b (by have : b ≠ k := (fun e => hne (by rw [e]; exact h9)); omega) hne, fun h b hb hne => h b (by omega) hne⟩
    · rename_i h9
      rw [solR_put, ih]
      constructor
      · intro h b hb hne
        by_cases h8 : b = k
        · subst h8; exact h.2
        · exact h.1 b (by omega) hne
      · intro h
        exact ⟨fun b hb hne => h b (by omega) hne, h k (by omega) h9⟩
theorem tripR_sol {nb : Nat} {t : Nat → Trp} {s : Nat × (Nat → Rul)} {x : Nat → Int} : ∀ n, SolR (tripR nb t s n).2 (tripR nb t s n).1 x ↔ SolR s.2 s.1 x ∧ ∀ k, k < n → x (1 + nb + (t k).m.toNat) - x (1 + (t k).b.toNat) ≤ (t k).hi ∧ x (1 + (t k).b.toNat) - x (1 + nb + (t k).m.toNat) ≤ -(t k).lo
  | 0 => ⟨fun h => ⟨h, fun k hk => by omega⟩, fun h => h.1⟩
  | n + 1 => by
    have ih := tripR_sol (nb := nb) (t := t) (s := s) (x := x) n
    unfold tripR
    rw [solR_put, ih]
    constructor
    · intro h
      refine ⟨h.1.1, fun k hk => ?_⟩
      by_cases h8 : k = n
      · subst h8; exact h.2
      · exact h.1.2 k (by omega)
    · intro h
      exact ⟨⟨h.1, fun k hk => h.2 k (by omega)⟩, h.2 n (by omega)⟩
theorem news_blk6 {W : World} {g e : Nat} {a b c d f h u : Value} {j : Nat} (hg : W.heap[g]? = some (.cells #[a, b, c, d, f, h] e (0, 0))) (hu : [a, b, c, d, f, h][j]? = some u) : W.cell? ((⟨g, 0, none⟩ : Addr).add j) = some u := by
  rw [add_flat, Nat.zero_add]
  exact (Box.mk hg).cell j (by simpa using hu)
set_option maxRecDepth 100000 in
set_option maxHeartbeats 8000000 in
theorem rules_any (r : Rnd) (oa : Option Addr) (ca : Nat) (off : Int) (la : Option Addr) (ln lc : Nat) (l : Nat → Trp) (w : World) (hb0 : 0 ≤ r.nb) (hb1 : r.nb ≤ 6) (hln : ln ≤ 1000) (hok : ∀ k, k < ln → (l k).ok) (hL : TrpsAt w la ln l) :
    Calls Tryd.prog 54 #[r.val oa ca, .int .i64 off, .slice la ln lc] w fun e w' => Below w.heap.size w w' ∧ ∃ v, e = .returned v ∧ w'.ownsRow w.heap.size 99 3 v (r.rulesR off ln l).1 (rulNews (r.rulesR off ln l).1 (r.rulesR off ln l).2) := by
  have HA := Lib.hid hL
  have HOK := Lib.hid hok
  clear hL hok
  obtain ⟨iR, hiR, hzR0, hzR1, hzR2⟩ := info_parts (P := Tryd.prog) (e := 99) (z := .agg #[.int .i64 0, .int .i64 0, .int .i64 0]) (size := 3) (bytes := 24) (by kernel_rfl)
  obtain ⟨nb, hnb⟩ : ∃ nb : Nat, r.nb = nb := ⟨r.nb.toNat, by omega⟩
  have HNB := Lib.hid hnb
  have HRR := Lib.hid (show r.rulesR off ln l = tripR nb l (benR r.most off nb) ln by unfold Rnd.rulesR; rw [hnb]; rfl)
  have hnb6 : nb ≤ 6 := by omega
  clear hb0 hb1
  obtain ⟨most, hmost⟩ : ∃ x, x = r.most := ⟨_, rfl⟩
  go_enter Tryd.func54, Tryd.ntmps54
  go_wp2_with fail
  rw [← hmost]
  rw [← hmost] at HRR
  clear hmost hnb
  have hb0 := below_alloc1 w (.cells #[.int .i64 nb, .int .i64 r.nm, .int .i64 most, .slice oa r.n ca] 24)
  have hB := Box.new (g := w.heap.size) #[.int .i64 nb, .int .i64 r.nm, .int .i64 most, .slice oa r.n ca] 24 w rfl
  obtain ⟨W, hW⟩ : ∃ X, X = w.alloc (.cells #[.int .i64 nb, .int .i64 r.nm, .int .i64 most, .slice oa r.n ca] 24) := ⟨_, rfl⟩
  rw [← hW] at hb0 hB ⊢
  clear hW
  obtain ⟨gr, hgr⟩ : ∃ G, G = w.heap.size := ⟨_, rfl⟩
  rw [← hgr] at hB ⊢
  clear hgr
  have HB := Lib.hid hB
  have HL := Lib.hid hb0
  clear hB hb0
  obtain ⟨wo, rfl⟩ : ∃ wo : World, wo = W := ⟨_, rfl⟩
  go_loopw [7, 8] (fun v7 v8 wr => ∃ k : Nat, k ≤ nb ∧ v8 = .int .i64 k ∧ Hid (wr.ownsRow w.heap.size 99 3 v7 (benR most off k).1 (rulNews (benR most off k).1 (benR most off k).2)) ∧ Hid (Below w.heap.size w wr) ∧ Hid (Box gr #[.int .i64 nb, .int .i64 r.nm, .int .i64 most, .slice oa r.n ca] 24 wr)) (fun _ i _ => nb - (intOf i).toNat)
  case atStart => exact ⟨0, by omega, rfl, Lib.hid owns_none, HL, HB⟩
  case round =>
    obtain ⟨k, hk, rfl, HOW, HL, HB⟩ := hrel
    have b0 := HB.out.cell 0 (v := .int .i64 nb) rfl
    have b2 := HB.out.cell 2 (v := .int .i64 most) rfl
    have b4 := HB.out.lt
    by_cases hlt : k < nb
    · by_cases hko : (k : Int) = off
      · have hq : ((k : Int) != off) = false := by simp [hko]
        have HO2 := Lib.hid (show wr.ownsRow w.heap.size 99 3 u7 (benR most off (k + 1)).1 (rulNews (benR most off (k + 1)).1 (benR most off (k + 1)).2) by
          have e : benR most off (k + 1) = benR most off k := by show (if _ then _ else _) = _; rw [if_pos hko]
          rw [e]; exact HOW.out)
        clear hko HOW
        go_wp2_with fail
        go_roundw
        case rel => exact ⟨k + 1, by omega, by go_num, HO2, HL, HB⟩
        case measure => simp [intOf]; omega
      · have hq : ((k : Int) != off) = true := by simp [hko]
        have HE := Lib.hid (show benR most off (k + 1) = ((benR most off k).1 + 2, put2R (benR most off k).1 (benR most off k).2 ⟨1 + k, 0, most⟩ ⟨0, 1 + k, most⟩) by show (if _ then _ else _) = _; rw [if_neg hko])
        have hcl := benR_le most off k
        clear hko
        obtain ⟨s, hs⟩ : ∃ s, s = benR most off k := ⟨_, rfl⟩
        rw [← hs] at HE HOW hcl
        have hcl2 : s.1 ≤ 100 := by omega
        clear hs hcl
        obtain ⟨oS, cS, rfl, -⟩ := owns_form HOW.out
        have hls := HL.out.size
        go_wp2_with (at_builtin; refine wpList_append_gen rfl (.tmp 21) (.tmp 32) _ rfl w.heap.size 99 iR _ 3 24 Tryd.underlying85 hiR hzR0 hzR1 hzR2 rfl (by omega) (.slice oS s.1 cS) s.1 (rulNews s.1 s.2) rfl (some ⟨wr.heap.size, 0, none⟩) 2 2 [.int .i64 (1 + k : Nat), .int .i64 (0 : Nat), .int .i64 most, .int .i64 (0 : Nat), .int .i64 (1 + k : Nat), .int .i64 most] rfl (HOW.out.alloc _) (fun e9 => by cases e9) rfl (fun ad9 e9 j9 u9 hu9 => by cases e9; exact news_blk6 (e := 99) (heap_new rfl) hu9) (by simp [Value.oneCell']) (by simp only [maxLen]; omega) (by omega) (by simp; omega) ?_; intro vS wS hownS hgrowS)
        have HLS := Lib.hid (show Below w.heap.size w wS from HL.out.trans ((below_alloc1 wr (.cells #[.int .i64 (1 + k : Nat), .int .i64 (0 : Nat), .int .i64 most, .int .i64 (0 : Nat), .int .i64 (1 + k : Nat), .int .i64 most] 99)).mono hls |>.trans (below_row HOW.out hgrowS hls)))
        have HBS := Lib.hid (box_grown (HB.out.old (.cells #[.int .i64 (1 + k : Nat), .int .i64 (0 : Nat), .int .i64 most, .int .i64 (0 : Nat), .int .i64 (1 + k : Nat), .int .i64 most] 99)) (HOW.out.alloc _) (by decide) hgrowS)
        rw [rulNews_put s.1 s.2 ⟨1 + k, 0, most⟩ ⟨0, 1 + k, most⟩] at hownS
        have HOS := Lib.hid (show wS.ownsRow w.heap.size 99 3 vS (benR most off (k + 1)).1 (rulNews (benR most off (k + 1)).1 (benR most off (k + 1)).2) by rw [HE.out]; exact hownS)
        clear hownS hgrowS HOW HL HB HE
        go_roundw
        case rel => exact ⟨k + 1, by omega, by go_num, HOS, HLS, HBS⟩
        case measure => simp [intOf]; omega
    · obtain rfl : k = nb := by omega
      obtain ⟨s, hs⟩ : ∃ s, s = benR most off k := ⟨_, rfl⟩
      have hcl := benR_le most off k
      rw [← hs] at HRR HOW hcl
      clear hs
      go_wp2_with fail
      clear b0 b2 b4
      obtain ⟨wo, rfl⟩ : ∃ wo : World, wo = wr := ⟨_, rfl⟩
      go_loopw [7, 9] (fun v7 v9 wr => ∃ j : Nat, j ≤ ln ∧ v9 = .int .i64 j ∧ Hid (wr.ownsRow w.heap.size 99 3 v7 (tripR k l s j).1 (rulNews (tripR k l s j).1 (tripR k l s j).2)) ∧ Hid (Below w.heap.size w wr) ∧ Hid (Box gr #[.int .i64 k, .int .i64 r.nm, .int .i64 most, .slice oa r.n ca] 24 wr)) (fun _ i _ => ln - (intOf i).toNat)
      case atStart => exact ⟨0, by omega, rfl, HOW, HL, HB⟩
      case round =>
        clear HOW HL HB
        obtain ⟨j, hj, rfl, HOW, HL, HB⟩ := hrel
        by_cases hjl : j < ln
        · have b0 := HB.out.cell 0 (v := .int .i64 k) rfl
          have b4 := HB.out.lt
          obtain ⟨tb, toff, rfl, hlt0, c0, c1, c2, c3⟩ := (HA.out.mono HL.out) j hjl
          obtain ⟨h1, h2, h3, h4, h5, h6, h7⟩ := HOK.out j hjl
          have HE := Lib.hid (show tripR k l s (j + 1) = ((tripR k l s j).1 + 2, put2R (tripR k l s j).1 (tripR k l s j).2 ⟨1 + k + (l j).m.toNat, 1 + (l j).b.toNat, (l j).hi⟩ ⟨1 + (l j).b.toNat, 1 + k + (l j).m.toNat, -(l j).lo⟩) from rfl)
          have hcl2 := tripR_le k l s j
          obtain ⟨s2, hs2⟩ : ∃ s2, s2 = tripR k l s j := ⟨_, rfl⟩
          rw [← hs2] at HE HOW hcl2
          clear hs2
          have hcl3 : s2.1 ≤ 3000 := by omega
          obtain ⟨T, hTT⟩ : ∃ T, T = l j := ⟨_, rfl⟩
          rw [← hTT] at c0 c1 c2 c3 h1 h2 h3 h4 h5 h6 h7 HE
          clear hTT
          obtain ⟨T1, T2, T3, T4⟩ := T
          simp only at c0 c1 c2 c3 h1 h2 h3 h4 h5 h6 h7 HE
          obtain ⟨b, rfl⟩ : ∃ b : Nat, T1 = b := ⟨T1.toNat, by omega⟩
          obtain ⟨m, rfl⟩ : ∃ b : Nat, T2 = b := ⟨T2.toNat, by omega⟩
          rw [Int.toNat_natCast, Int.toNat_natCast] at HE
          have hj0 : (0 : Int) ≤ (j : Int) := by omega
          have hj1 : (j : Int) < (ln : Int) := by omega
          obtain ⟨oS, cS, rfl, -⟩ := owns_form HOW.out
          have hls := HL.out.size
          clear hcl2 hcl
          have hbl : Below w.heap.size w (wr.alloc (.cells #[.int .i64 b, .int .i64 m, .int .i64 T3, .int .i64 T4] 48)) := HL.out.alloc HL.out.size _
          have hbx := HB.out.old (.cells #[.int .i64 b, .int .i64 m, .int .i64 T3, .int .i64 T4] 48)
          have hla := hbl.size
          obtain ⟨wt, hwt⟩ : ∃ X, X = wr.alloc (.cells #[.int .i64 b, .int .i64 m, .int .i64 T3, .int .i64 T4] 48) := ⟨_, rfl⟩
          have HWT := Lib.hid hwt
          have HO1 := Lib.hid (show wt.ownsRow w.heap.size 99 3 (.slice oS s2.1 cS) s2.1 (rulNews s2.1 s2.2) by rw [hwt]; exact HOW.out.alloc _)
          have HL1 := Lib.hid (show Below w.heap.size w wt by rw [hwt]; exact hbl)
          have HB1 := Lib.hid (show Box gr #[.int .i64 k, .int .i64 r.nm, .int .i64 most, .slice oa r.n ca] 24 wt by rw [hwt]; exact hbx)
          have hls1 := HL1.out.size
          clear hwt hbl hbx
          go_wp2_with (at_builtin; refine wpList_append_gen rfl (.tmp 50) (.tmp 68) _ rfl w.heap.size 99 iR _ 3 24 Tryd.underlying85 hiR hzR0 hzR1 hzR2 rfl (by omega) (.slice oS s2.1 cS) s2.1 (rulNews s2.1 s2.2) rfl (some ⟨wr.heap.size + 1, 0, none⟩) 2 2 [.int .i64 (1 + k + m : Nat), .int .i64 (1 + b : Nat), .int .i64 T4, .int .i64 (1 + b : Nat), .int .i64 (1 + k + m : Nat), .int .i64 (-T3)] rfl ((HOW.out.alloc _).alloc _) (fun e9 => by cases e9) rfl (fun ad9 e9 j9 u9 hu9 => by cases e9; exact news_blk6 (e := 99) (heap_new (by simp)) hu9) (by simp [Value.oneCell']) (by simp only [maxLen]; omega) (by omega) (by simp; omega) ?_; intro vS wS hownS hgrowS)
          rw [← HWT.out] at hgrowS
          have HLS := Lib.hid (show Below w.heap.size w wS from HL1.out.trans ((below_alloc1 wt (.cells #[.int .i64 (1 + k + m : Nat), .int .i64 (1 + b : Nat), .int .i64 T4, .int .i64 (1 + b : Nat), .int .i64 (1 + k + m : Nat), .int .i64 (-T3)] 99)).mono hls1 |>.trans (below_row HO1.out hgrowS hls1)))
          have HBS := Lib.hid (box_grown (HB1.out.old (.cells #[.int .i64 (1 + k + m : Nat), .int .i64 (1 + b : Nat), .int .i64 T4, .int .i64 (1 + b : Nat), .int .i64 (1 + k + m : Nat), .int .i64 (-T3)] 99)) (HO1.out.alloc _) (by decide) hgrowS)
          rw [rulNews_put s2.1 s2.2 ⟨1 + k + m, 1 + b, T4⟩ ⟨1 + b, 1 + k + m, -T3⟩] at hownS
          have HOS := Lib.hid (show wS.ownsRow w.heap.size 99 3 vS (tripR k l s (j + 1)).1 (rulNews (tripR k l s (j + 1)).1 (tripR k l s (j + 1)).2) by rw [HE.out]; exact hownS)
          clear hownS hgrowS HOW HL HB HE HWT HO1 HL1 HB1
          go_roundw
          case rel => exact ⟨j + 1, by omega, by go_num, HOS, HLS, HBS⟩
          case measure => simp [intOf]; omega
        · obtain rfl : j = ln := by omega
          have HF := Lib.hid (show Below w.heap.size w wr ∧ wr.ownsRow w.heap.size 99 3 u7 (r.rulesR off j l).1 (rulNews (r.rulesR off j l).1 (r.rulesR off j l).2) from ⟨HL.out, by rw [HRR.out]; exact HOW.out⟩)
          obtain ⟨oS, cS, rfl, -⟩ := owns_form HOW.out
          clear HOW HL HB
          go_wp2_with fail
          go_ret
          exact ⟨HF.out.1, _, rfl, HF.out.2⟩
end Go.Proofs.YtldodmfmibeoiaaDoor
