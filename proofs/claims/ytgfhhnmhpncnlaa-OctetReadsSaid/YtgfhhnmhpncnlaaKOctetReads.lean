/-
  OctetReads' walk: it returns true. No condition.
-/
import Derived.Test.YtgfhhnmhpncnlaaQ
import Derived.Test.YtgfhhnmhpncnlaaH
import Derived.Deep.CutBlock
namespace Go.Proofs.Ytgfhhnmhpncnlaa
open Go.RowKit
set_option linter.unusedVariables false
set_option linter.unusedSimpArgs false

theorem fr_below {S : Nat → Prop} {B : Nat} {w w' : World} (h : Fr S w w') (hS : ∀ b, S b → B ≤ b) (hs : B ≤ w.heap.size) : Below B w w' :=
  ⟨h.os, h.tape, h.output, h.size, fun k hk => h.block k (by omega) (fun hb => by have := hS k hb; omega)⟩
theorem below_drewN {B : Nat} {w W : World} (h : Below B w W) (n : Nat) : Below B w (W.drewN n) := ⟨h.os, h.tape, h.output, h.size, h.block⟩
theorem bytes_inv (r : Rd) (n : Int) (hb : isB r.p) (hle : r.at_ ≤ r.p.length) : (r.bytes n).2.p = r.p ∧ isB (r.bytes n).1 ∧ ((r.bytes n).1.length : Int) ≤ max n 0 ∧ (r.bytes n).2.at_ ≤ r.p.length := by
  unfold Rd.bytes
  split
  · exact ⟨rfl, (fun x h => by cases h), by simp; omega, hle⟩
  · split
    · exact ⟨by simp only [Rd.fail]; split <;> rfl, (fun x h => by cases h), by simp; omega, by simp only [Rd.fail]; split <;> exact hle⟩
    · split
      · exact ⟨by simp only [Rd.fail]; split <;> rfl, (fun x h => by cases h), by simp; omega, by simp only [Rd.fail]; split <;> exact hle⟩
      · rename_i h1 h2 h3
        simp only [Rd.left] at h3
        refine ⟨rfl, fun x hx => hb x (List.mem_of_mem_drop (List.mem_of_mem_take hx)), ?_, by simp only; omega⟩
        simp; omega
theorem be_small (l : List Int) (h : isB l) : (l.length ≤ 1 → be l % 256 = be l) ∧ (l.length ≤ 2 → be l % 65536 = be l) := by
  match l, h with
  | [], _ => exact ⟨fun _ => rfl, fun _ => rfl⟩
  | [x], h =>
    have hx := h x (by simp)
    have : be [x] = x := by simp [be, beStep]; omega
    rw [this]; constructor <;> intro _ <;> omega
  | [x, y], h =>
    have hx := h x (by simp)
    have hy := h y (by simp)
    have : be [x, y] = x * 256 + y := by simp [be, beStep]; omega
    rw [this]; exact ⟨fun h => by simp at h, fun _ => by omega⟩
  | _ :: _ :: _ :: _, _ => exact ⟨fun h => by simp at h, fun h => by simp at h⟩

/-- Both readers stand alike. -/
structure Both (w0 w : World) (g g2 : Nat) (x x2 : Value) (B : Nat) (r : Rd) : Prop where
  a : RdAt w g x r
  b : RrAt w g2 x2 r
  ne : g ≠ g2
  ga : w0.heap.size ≤ g
  gb : w0.heap.size ≤ g2
  xa : Bs w (fun b => b = g ∨ b = g2 ∨ B ≤ b) x r.p
  xb : Bs w (fun b => b = g ∨ b = g2 ∨ B ≤ b) x2 r.p
  bel : Below w0.heap.size w0 w
/-- The first has gone on, the second not yet. -/
structure Half (w0 w : World) (g g2 : Nat) (x x2 : Value) (B : Nat) (r r' : Rd) : Prop where
  a : RdAt w g x r'
  b : RrAt w g2 x2 r
  ne : g ≠ g2
  ga : w0.heap.size ≤ g
  gb : w0.heap.size ≤ g2
  xa : Bs w (fun b => b = g ∨ b = g2 ∨ B ≤ b) x r'.p
  xb : Bs w (fun b => b = g ∨ b = g2 ∨ B ≤ b) x2 r'.p
  bel : Below w0.heap.size w0 w
theorem Both.half {w0 w w' : World} {g g2 B : Nat} {x x2 : Value} {r r' : Rd} (h : Both w0 w g g2 x x2 B r) (ha : RdAt w' g x r') (hf : Fr (fun b => b = g) w w') (hp : r'.p = r.p) : Half w0 w' g g2 x x2 B r r' :=
  ⟨ha, h.b.hasFr2 h.xb hf (fun e => h.ne e.symm) (fun b _ e => .inl e), h.ne, h.ga, h.gb, hp ▸ h.xa.fr hf (fun b _ e => .inl e), hp ▸ h.xb.fr hf (fun b _ e => .inl e), h.bel.trans (fr_below hf (fun b e => by subst e; exact h.ga) h.bel.size)⟩
theorem Half.both {w0 w w' : World} {g g2 B : Nat} {x x2 : Value} {r r' : Rd} (h : Half w0 w g g2 x x2 B r r') (hb : RrAt w' g2 x2 r') (hf : Fr (fun b => b = g2) w w') : Both w0 w' g g2 x x2 B r' :=
  ⟨h.a.hasFr2 h.xa hf h.ne (fun b _ e => .inr (.inl e)), hb, h.ne, h.ga, h.gb, h.xa.fr hf (fun b _ e => .inr (.inl e)), h.xb.fr hf (fun b _ e => .inr (.inl e)), h.bel.trans (fr_below hf (fun b e => by subst e; exact h.gb) h.bel.size)⟩
theorem Both.drewN {w0 w : World} {g g2 B : Nat} {x x2 : Value} {r : Rd} (h : Both w0 w g g2 x x2 B r) (n : Nat) : Both w0 (w.drewN n) g g2 x x2 B r :=
  ⟨h.a.drewN n, h.b.drewN n, h.ne, h.ga, h.gb, h.xa.fr (S' := fun _ => False) ((Fr.refl _ _).drewN n) (fun _ _ h => h.elim), h.xb.fr (S' := fun _ => False) ((Fr.refl _ _).drewN n) (fun _ _ h => h.elim), below_drewN h.bel n⟩

set_option maxRecDepth 100000 in
set_option maxHeartbeats 6400000 in
theorem OctetReads_main {w : World} {v0 v1 : Value} {p : List Int} {l : List (Int × Int)} (h0 : Bs w (fun _ => False) v0 p) (h1 : Row w (fun _ => False) 2 v1 l.length (l.map stepC).flatten)
    (b0 : p.length ≤ 20000) (b1 : l.length ≤ 60) :
    Calls Try.prog 3 #[v0, v1] w fun e w' => e = .returned (.bool true) ∧ Below w.heap.size w w' := by
  obtain ⟨A0, c0, rfl, -⟩ := id h0
  obtain ⟨A1, c1, rfl, -⟩ := h1.head
  have d0' : decide (20000 < p.length) = false := by simp; omega
  have d1' : decide (60 < l.length) = false := by simp; omega
  have g0 := h0.out
  have g1 := h1.out
  have hbp := h0.news.2.2.2.1
  go_enter Try.func3, Try.ntmps3
  go_wp2_with (first
    | (at_builtin; refine wpList_cloneB rfl (.tmp 22) (.tmp 23) rfl rfl rfl g0 (by omega) ?_; intro v1 w1 o1 lo1 bl1)
    | (go_at_call 14; refine (New_any o1.old (by omega)).mono ?_; rintro e w2 ⟨g, x, rfl, hg, hr, hq, fr2⟩; have bl2 : Below w1.heap.size w1 w2 := fr2.below (fun _ h => h.elim); have bw2 := bl1.trans (bl2.mono bl1.size))
    | (go_at_call 15; refine (RNew_any (g0.later bw2) (by omega)).mono ?_; rintro e w3 ⟨g2, x2, rfl, hg2, hr2, hq2, fr3⟩; have bl3 : Below w2.heap.size w2 w3 := fr3.below (fun _ h => h.elim); have bw3 := bw2.trans (bl3.mono bw2.size)))
  have hxa : Bs w3 (fun b => b < w1.heap.size) x p := hq.below bl3 (fun b hb h => by omega)
  have hxb : Bs w3 (fun b => b < w2.heap.size) x2 p := hq2
  have hxa2 : Bs w3 (fun b => w2.heap.size ≤ b) x p := hq.out.later bl3
  have hra : RdAt w3 g x (Rd.new p) := hr.hasFr2 (S := fun b => w2.heap.size ≤ b) hq.out fr3 (fun h => h) (fun _ _ h => h.elim)
  have hlt2 := (Array.getElem?_eq_some_iff.1 hr.row).1
  have hne : g ≠ g2 := by omega
  have hge : w.heap.size ≤ g := Nat.le_trans bl1.size hg
  have hge2 : w.heap.size ≤ g2 := Nat.le_trans bw2.size hg2
  have hlt1 := o1.lt
  have o3 := o1.below (bl2.trans (bl3.mono bl2.size)) hlt1
  have w12 := bl2.size
  have hxA := hxa.and hxa2
  clear hq hq2 fr2 fr3 hr o1
  obtain ⟨A4, c4, rfl⟩ := o3.slice
  go_loopw [8] (fun i wr => ∃ (j : Nat) (m : List Int), j ≤ p.length ∧ i = .int .i64 j ∧ m.length = p.length ∧ Ob wr (.slice A4 p.length c4) m ∧ FrV (.slice A4 p.length c4) w3 wr) (fun i _ => p.length - (intOf i).toNat)
  case atStart => exact ⟨0, p, Nat.zero_le _, rfl, rfl, o3, Fr.refl _ _⟩
  case round =>
    obtain ⟨j, m, hj, rfl, hm, ho, hf⟩ := hrel
    by_cases hlt : j < p.length
    · obtain ⟨k, rfl, -, hcell, hset⟩ := ho.at_ (by omega)
      obtain ⟨hc, hfz⟩ := hcell j (by omega)
      have hy := bounds_u8 (wf_bits .xor .u8 (m.getD j 0) 85)
      have hs := hset j (bits .xor .u8 (m.getD j 0) 85) (by omega) hy.1 (by omega)
      generalize m.getD j 0 = y at *
      have Hm := Lib.hid hm
      clear hm
      go_wp2
      go_roundw
      case rel => exact ⟨j + 1, _, by omega, by go_num, by rw [List.length_set]; exact Hm.out, hs, hf.setCell (p := ⟨k, j, none⟩) (.inl rfl) _⟩
      case measure => simp [intOf]; omega
    · obtain rfl : j = p.length := by omega
      have hv : ∀ b, (Value.slice A4 p.length c4).ownBlock = some b → w.heap.size ≤ b ∧ b < w1.heap.size := fun b hb => ⟨lo1 b hb, hlt1 b hb⟩
      have hB : Both w wr g g2 x x2 wr.heap.size (Rd.new p) := by
        have ra := hra.hasFr2 hxA hf (fun h => by have := (hv _ h).2; omega) (fun b _ h => .inl (hv _ h).2)
        have rb := hr2.hasFr2 hxb hf (fun h => by have := (hv _ h).2; omega) (fun b _ h => by have := (hv _ h).2; show b < w2.heap.size; omega)
        have ka := ((hxA.fr hf (fun b _ h => .inl (hv _ h).2)).and ra.bytes).and (ra.bytes.old)
        have kb := ((hxb.fr hf (fun b _ h => by have := (hv _ h).2; show b < w2.heap.size; omega)).and rb.bytes).and (rb.bytes.old)
        refine ⟨ra, rb, hne, hge, hge2, ka.mono_l rfl (fun b h => ?_), kb.mono_l rfl (fun b h => ?_), bw3.trans (fr_below hf (fun b h => (hv b h).1) bw3.size)⟩
        · rcases h with h | h | h
          · exact .inl (.inr h)
          · exact .inl (.inl (.inr (by omega)))
          · exact .inr (.inr h)
        · rcases h with h | h | h
          · exact .inl (.inl (by show b < w2.heap.size; omega))
          · exact .inl (.inr h)
          · exact .inr (.inr h)
      clear hf ho hv hra hr2 hxa hxb hxa2 hxA o3 lo1 hlt1 bl1 bl2 bl3 bw2 bw3 hlt2 hne hge hge2 hg hg2 w12 hlt hj
      generalize wr.heap.size = B at hB
      obtain ⟨r0, hr0⟩ : ∃ r0, Rd.new p = r0 := ⟨_, rfl⟩
      have hp0 : Hid (r0.p = p) := by rw [← hr0]; exact Lib.hid rfl
      rw [hr0] at hB
      clear hr0
      go_wp2
      go_loopw [9] (fun i wr => ∃ (j : Nat) (r : Rd), j ≤ l.length ∧ i = .int .i64 j ∧ Hid (r.p = p) ∧ Both w wr g g2 x x2 B r) (fun i _ => l.length - (intOf i).toNat)
      case atStart => exact ⟨0, r0, Nat.zero_le _, rfl, hp0, hB⟩
      case round =>
        clear hB hp0
        obtain ⟨j, r, hj, rfl, hp, hB⟩ := hrel
        by_cases hlt : j < l.length
        · obtain ⟨b, o, rfl, p1, p2, p3⟩ := (g1.later hB.bel).at_ (by omega)
          have hall : ∀ c ∈ l.map stepC, c.length = 2 := by intro c hc; obtain ⟨y, _, rfl⟩ := List.mem_map.1 hc; rfl
          have hcK := p3 (j * 2 + 0) (.int .i64 (l[j]).1) (by rw [flat_get hall (by simpa using hlt) (by decide)]; simp [stepC])
          have hcN := p3 (j * 2 + 1) (.int .i64 (l[j]).2) (by rw [flat_get hall (by simpa using hlt) (by decide)]; simp [stepC])
          rw [Nat.add_zero] at hcK
          rw [← Nat.add_assoc] at hcN
          generalize (l[j]).1 = K at *
          generalize (l[j]).2 = N at *
          have ib := bytes_inv r
          have hrb := (hB.a.bytes).news'
          have hcNg : b ≠ g ∧ b ≠ g2 := ⟨fun h => p1 (h ▸ hB.ga), fun h => p1 (h ▸ hB.gb)⟩
          clear hall p1 p2 p3
          go_upto_block 4 with fail
          go_cut [10] from 45 to 175 (fun v W => v = .bool true ∧ ∃ r', Hid (r'.p = p) ∧ Both w W g g2 x x2 B r')
          case first =>
            by_cases k0 : K = 0
            · have kb : (K == 0) = true := by simp [k0]
              obtain ⟨⟨m, r'⟩, hm⟩ : ∃ q, r.bytes 1 = q := ⟨_, rfl⟩
              have hi := bytes_inv r 1 hrb hB.a.le
              rw [hm] at hi
              simp only at hi
              have hval := (be_small m hi.2.1).1 (by omega)
              have HU := U8_any hB.a (by rw [hp.out]; omega) hm
              rw [hval] at HU
              have hp' : Hid (r'.p = p) := by rw [hi.1]; exact hp
              have hpp := Lib.hid hi.1
              have HN := fun (W : World) (h : RrAt W g2 x2 r) => RNum_any h 1 (by rw [hp.out]; omega) hm
              
              have hb2 := Lib.hid (show Value.bool true = Value.bool (be m % 4294967296 == be m) from congrArg Value.bool (by rw [show be m % 4294967296 = be m from by have := Int.emod_nonneg (be m) (show (256:Int) ≠ 0 by decide); have := Int.emod_lt_of_pos (be m) (show (0:Int) < 256 by decide); omega]; simp))
              clear hm hi hval
              go_wp2_with (first
                | (go_at_call 16; refine HU.mono ?_; rintro e w5 ⟨rfl, hr5, hf5⟩; have hH := hB.half hr5 hf5 hpp.out)
                | (go_at_call 17; refine (HN _ hH.b).mono ?_; rintro e w6 ⟨rfl, hr6, hf6⟩; have hB' := hH.both hr6 hf6))
              go_meet
              exact ⟨hb2.out.symm, r', hp', hB'⟩
            have kb0 : (K == 0) = false := by simp [k0]
            by_cases k1 : K = 1
            · have kb : (K == 1) = true := by simp [k1]
              obtain ⟨⟨m, r'⟩, hm⟩ : ∃ q, r.bytes 2 = q := ⟨_, rfl⟩
              have hi := bytes_inv r 2 hrb hB.a.le
              rw [hm] at hi
              simp only at hi
              have hval := (be_small m hi.2.1).2 (by omega)
              have HU := U16_any hB.a (by rw [hp.out]; omega) hm
              rw [hval] at HU
              have hp' : Hid (r'.p = p) := by rw [hi.1]; exact hp
              have hpp := Lib.hid hi.1
              have HN := fun (W : World) (h : RrAt W g2 x2 r) => RNum_any h 2 (by rw [hp.out]; omega) hm
              
              have hb2 := Lib.hid (show Value.bool true = Value.bool (be m % 4294967296 == be m) from congrArg Value.bool (by rw [show be m % 4294967296 = be m from by have := Int.emod_nonneg (be m) (show (65536:Int) ≠ 0 by decide); have := Int.emod_lt_of_pos (be m) (show (0:Int) < 65536 by decide); omega]; simp))
              clear hm hi hval
              go_wp2_with (first
                | (go_at_call 18; refine HU.mono ?_; rintro e w5 ⟨rfl, hr5, hf5⟩; have hH := hB.half hr5 hf5 hpp.out)
                | (go_at_call 17; refine (HN _ hH.b).mono ?_; rintro e w6 ⟨rfl, hr6, hf6⟩; have hB' := hH.both hr6 hf6))
              go_meet
              exact ⟨hb2.out.symm, r', hp', hB'⟩
            have kb1 : (K == 1) = false := by simp [k1]
            by_cases k2 : K = 2
            · have kb : (K == 2) = true := by simp [k2]
              obtain ⟨⟨m, r'⟩, hm⟩ : ∃ q, r.bytes 4 = q := ⟨_, rfl⟩
              have hi := bytes_inv r 4 hrb hB.a.le
              rw [hm] at hi
              simp only at hi
              have hval := hi.1
              have HU := U32_any hB.a (by rw [hp.out]; omega) hm
              skip
              have hp' : Hid (r'.p = p) := by rw [hi.1]; exact hp
              have hpp := Lib.hid hi.1
              have HN := fun (W : World) (h : RrAt W g2 x2 r) => RNum_any h 4 (by rw [hp.out]; omega) hm
              
              clear hm hi hval
              go_wp2_with (first
                | (go_at_call 19; refine HU.mono ?_; rintro e w5 ⟨rfl, hr5, hf5⟩; have hH := hB.half hr5 hf5 hpp.out)
                | (go_at_call 17; refine (HN _ hH.b).mono ?_; rintro e w6 ⟨rfl, hr6, hf6⟩; have hB' := hH.both hr6 hf6))
              go_meet
              exact ⟨rfl, r', hp', hB'⟩
            have kb2 : (K == 2) = false := by simp [k2]
            by_cases k3 : K = 3
            · have kb : (K == 3) = true := by simp [k3]
              obtain ⟨⟨m, r'⟩, hm⟩ : ∃ q, r.bytes N = q := ⟨_, rfl⟩
              have hi := bytes_inv r N hrb hB.a.le
              rw [hm] at hi
              simp only at hi
              have hp' : Hid (r'.p = p) := by rw [hi.1]; exact hp
              have hpp := Lib.hid hi.1
              have hBd := hB.drewN 1
              have HU : Calls Try.prog 20 #[.pointer (some ⟨g, 0, none⟩), .int .i64 N] wr.drew _ := Bytes_any hBd.a N (by rw [hp.out]; omega)
              have HN := fun (W : World) (h : RrAt W g2 x2 r) => RBytes_any h N (by rw [hp.out]; omega)
              rw [hm] at HU HN
              clear hm hi hcK
              have hlg := (Array.getElem?_eq_some_iff.1 hB.b.row).1
              go_wp2
              refine wp_region_held_drew (S := (fun W => W.cell? ⟨b, o + j * 2 + 1, none⟩ = some (.int .i64 N))) (by kernel_rfl) (hcN) (fun hHeld => ?_)
              refine wpAnyH_take (i := 0) (oi := { dst := (some 81), op := (Op.move (Operand.tmp 6)), type := 25, pos := "law.go:88", after := #[], guard := none }) (v := ?_) rfl (by kernel_rfl) (by kernel_rfl) (by kernel_rfl) (fun _ _ _ h => h) (Or.inl ⟨by rfl, ?_⟩) (by assumption) ?_
              rotate_left
              · intro w hSw
                (try dsimp only at hSw)
                go_simp
                with_reducible rfl
              (try simp only [Act.put, List.setIfInBounds_toArray, List.set_cons_zero, List.set_cons_succ])
              refine wpAnyH_take (i := 1) (oi := { dst := (some 82), op := (Op.move (Operand.tmp 1)), type := 23, pos := "law.go:88", after := #[], guard := none }) (v := ?_) rfl (by kernel_rfl) (by kernel_rfl) (by kernel_rfl) (fun _ _ _ h => h) (Or.inl ⟨by rfl, ?_⟩) (by assumption) ?_
              rotate_left
              · intro w hSw
                (try dsimp only at hSw)
                go_simp
                with_reducible rfl
              (try simp only [Act.put, List.setIfInBounds_toArray, List.set_cons_zero, List.set_cons_succ])
              refine wpAnyH_take (i := 2) (oi := { dst := (some 83), op := (Op.move (Operand.tmp 9)), type := 3, pos := "law.go:88", after := #[], guard := none }) (v := ?_) rfl (by kernel_rfl) (by kernel_rfl) (by kernel_rfl) (fun _ _ _ h => h) (Or.inl ⟨by rfl, ?_⟩) (by assumption) ?_
              rotate_left
              · intro w hSw
                (try dsimp only at hSw)
                go_simp
                with_reducible rfl
              (try simp only [Act.put, List.setIfInBounds_toArray, List.set_cons_zero, List.set_cons_succ])
              refine wpAnyH_take (i := 3) (oi := { dst := (some 84), op := (Op.indexAddr 23 (Operand.tmp 82) (Operand.tmp 83)), type := 0, pos := "law.go:88", after := #[{ on := 1, ground := Ground.data }, { on := 2, ground := Ground.data }], guard := none }) (v := ?_) rfl (by kernel_rfl) (by kernel_rfl) (by kernel_rfl) (fun _ _ _ h => h) (Or.inl ⟨by rfl, ?_⟩) (by assumption) ?_
              rotate_left
              · intro w hSw
                (try dsimp only at hSw)
                go_simp
                with_reducible rfl
              (try simp only [Act.put, List.setIfInBounds_toArray, List.set_cons_zero, List.set_cons_succ])
              refine wpAnyH_take (i := 4) (oi := { dst := (some 85), op := (Op.fieldAddr 30 (Operand.tmp 84) 1), type := 0, pos := "law.go:88", after := #[{ on := 3, ground := Ground.data }], guard := none }) (v := ?_) rfl (by kernel_rfl) (by kernel_rfl) (by kernel_rfl) (fun _ _ _ h => h) (Or.inl ⟨by rfl, ?_⟩) (by assumption) ?_
              rotate_left
              · intro w hSw
                (try dsimp only at hSw)
                go_simp
                with_reducible rfl
              (try simp only [Act.put, List.setIfInBounds_toArray, List.set_cons_zero, List.set_cons_succ])
              refine wpAnyH_take (i := 5) (oi := { dst := (some 86), op := (Op.load 3 (Operand.tmp 85)), type := 3, pos := "law.go:88", after := #[{ on := 4, ground := Ground.data }], guard := none }) (v := ?_) rfl (by kernel_rfl) (by kernel_rfl) (by kernel_rfl) (fun _ _ _ h => h) (Or.inl ⟨by rfl, ?_⟩) (by assumption) ?_
              rotate_left
              · intro w hSw
                (try dsimp only at hSw)
                go_simp
                with_reducible rfl
              (try simp only [Act.put, List.setIfInBounds_toArray, List.set_cons_zero, List.set_cons_succ])
              refine wpAnyH_take (i := 8) (oi := { dst := (some 89), op := (Op.move (Operand.tmp 7)), type := 27, pos := "law.go:88", after := #[], guard := none }) (v := ?_) rfl (by kernel_rfl) (by kernel_rfl) (by kernel_rfl) (fun _ _ _ h => h) (Or.inl ⟨by rfl, ?_⟩) (by assumption) ?_
              rotate_left
              · intro w hSw
                (try dsimp only at hSw)
                go_simp
                with_reducible rfl
              (try simp only [Act.put, List.setIfInBounds_toArray, List.set_cons_zero, List.set_cons_succ])
              refine wpAnyH_take (i := 9) (oi := { dst := (some 90), op := (Op.move (Operand.tmp 1)), type := 23, pos := "law.go:88", after := #[], guard := none }) (v := ?_) rfl (by kernel_rfl) (by kernel_rfl) (by kernel_rfl) (fun _ _ _ h => h) (Or.inl ⟨by rfl, ?_⟩) (by assumption) ?_
              rotate_left
              · intro w hSw
                (try dsimp only at hSw)
                go_simp
                with_reducible rfl
              (try simp only [Act.put, List.setIfInBounds_toArray, List.set_cons_zero, List.set_cons_succ])
              refine wpAnyH_take (i := 10) (oi := { dst := (some 91), op := (Op.move (Operand.tmp 9)), type := 3, pos := "law.go:88", after := #[], guard := none }) (v := ?_) rfl (by kernel_rfl) (by kernel_rfl) (by kernel_rfl) (fun _ _ _ h => h) (Or.inl ⟨by rfl, ?_⟩) (by assumption) ?_
              rotate_left
              · intro w hSw
                (try dsimp only at hSw)
                go_simp
                with_reducible rfl
              (try simp only [Act.put, List.setIfInBounds_toArray, List.set_cons_zero, List.set_cons_succ])
              refine wpAnyH_take (i := 11) (oi := { dst := (some 92), op := (Op.indexAddr 23 (Operand.tmp 90) (Operand.tmp 91)), type := 0, pos := "law.go:88", after := #[{ on := 9, ground := Ground.data }, { on := 10, ground := Ground.data }], guard := none }) (v := ?_) rfl (by kernel_rfl) (by kernel_rfl) (by kernel_rfl) (fun _ _ _ h => h) (Or.inl ⟨by rfl, ?_⟩) (by assumption) ?_
              rotate_left
              · intro w hSw
                (try dsimp only at hSw)
                go_simp
                with_reducible rfl
              (try simp only [Act.put, List.setIfInBounds_toArray, List.set_cons_zero, List.set_cons_succ])
              refine wpAnyH_take (i := 12) (oi := { dst := (some 93), op := (Op.fieldAddr 30 (Operand.tmp 92) 1), type := 0, pos := "law.go:88", after := #[{ on := 11, ground := Ground.data }], guard := none }) (v := ?_) rfl (by kernel_rfl) (by kernel_rfl) (by kernel_rfl) (fun _ _ _ h => h) (Or.inl ⟨by rfl, ?_⟩) (by assumption) ?_
              rotate_left
              · intro w hSw
                (try dsimp only at hSw)
                go_simp
                with_reducible rfl
              (try simp only [Act.put, List.setIfInBounds_toArray, List.set_cons_zero, List.set_cons_succ])
              refine wpAnyH_take (i := 13) (oi := { dst := (some 94), op := (Op.load 3 (Operand.tmp 93)), type := 3, pos := "law.go:88", after := #[{ on := 12, ground := Ground.data }], guard := none }) (v := ?_) rfl (by kernel_rfl) (by kernel_rfl) (by kernel_rfl) (fun _ _ _ h => h) (Or.inl ⟨by rfl, ?_⟩) (by assumption) ?_
              rotate_left
              · intro w hSw
                (try dsimp only at hSw)
                go_simp
                with_reducible rfl
              (try simp only [Act.put, List.setIfInBounds_toArray, List.set_cons_zero, List.set_cons_succ])
              refine wpAnyH_ready (rs := [6]) (by kernel_rfl) (by simp) ?_
              refine AllReadyH.cons (o := { dst := (some 87), op := (Op.call { callee := (Callee.value (Operand.func 20)), args := #[(Operand.tmp 81), (Operand.tmp 86)], argTypes := #[25, 3] }), type := 22, pos := "law.go:88", after := #[{ on := 0, ground := Ground.data }, { on := 5, ground := Ground.data }], guard := none }) rfl (fun K hK => ?_) AllReadyH.nil
              go_simp
              refine HU.mono ?_
              rintro e w5 ⟨v5, rfl, hb5, hr5, hf5⟩
              have hH := hBd.half hr5 hf5 hpp.out
              have hc5 : w5.cell? ⟨b, o + j * 2 + 1, none⟩ = some (.int .i64 N) := hf5.cell hcN hcNg.1
              obtain ⟨A5, c5, rfl, -⟩ := id hb5
              have hs5 := conv_str hb5
              refine hK.out _ _ ?_ (fun hHeld => ?_)
              · exact hc5
              clear hK K
              (try simp only [Act.put, List.setIfInBounds_toArray, List.set_cons_zero, List.set_cons_succ])
              refine wpAnyH_more (S' := (fun W => W.cell? ⟨b, o + j * 2 + 1, none⟩ = some (.int .i64 N) ∧ (convert 22 9 (.slice A5 m.length c5)).run Try.prog W = .ok (.string (strOfNums m)) W)) (fun _ h => h.1) ?_
              have hHeld2 := And.intro hc5 hs5
              refine wpAnyH_take (i := 7) (oi := { dst := (some 88), op := (Op.convert 22 9 (Operand.tmp 87)), type := 9, pos := "law.go:88", after := #[{ on := 6, ground := Ground.data }], guard := none }) (v := ?_) rfl (by kernel_rfl) (by kernel_rfl) (by kernel_rfl) (fun _ _ _ h => h) (Or.inl ⟨by rfl, ?_⟩) (by assumption) ?_
              rotate_left
              · intro w hSw
                (try dsimp only at hSw)
                go_simp
                with_reducible rfl
              (try simp only [Act.put, List.setIfInBounds_toArray, List.set_cons_zero, List.set_cons_succ])
              refine wpAnyH_ready (rs := [14]) (by kernel_rfl) (by simp) ?_
              refine AllReadyH.cons (o := { dst := (some 95), op := (Op.call { callee := (Callee.value (Operand.func 21)), args := #[(Operand.tmp 89), (Operand.tmp 94)], argTypes := #[27, 3] }), type := 22, pos := "law.go:88", after := #[{ on := 8, ground := Ground.data }, { on := 13, ground := Ground.data }, { on := 6, ground := Ground.chain }], guard := none }) rfl (fun K hK => ?_) AllReadyH.nil
              go_simp
              refine (HN _ hH.b).mono ?_
              rintro e w6 ⟨v6, rfl, hb6, hr6, hf6⟩
              have hB' := hH.both hr6 hf6
              have hc6 : w6.cell? ⟨b, o + j * 2 + 1, none⟩ = some (.int .i64 N) := hf6.cell hc5 hcNg.2
              have hb5' := hb5.fr hf6 (fun b _ h => by subst h; exact hlg)
              obtain ⟨A6, c6, rfl, -⟩ := id hb6
              have hs6 := conv_str hb6
              refine hK.out _ _ ?_ (fun hHeld => ?_)
              · exact ⟨hc6, conv_str hb5'⟩
              clear hK K
              (try simp only [Act.put, List.setIfInBounds_toArray, List.set_cons_zero, List.set_cons_succ])
              refine wpAnyH_more (S' := (fun W => (W.cell? ⟨b, o + j * 2 + 1, none⟩ = some (.int .i64 N) ∧ (convert 22 9 (.slice A5 m.length c5)).run Try.prog W = .ok (.string (strOfNums m)) W) ∧ (convert 22 9 (.slice A6 m.length c6)).run Try.prog W = .ok (.string (strOfNums m)) W)) (fun _ h => h.1) ?_
              have hHeld3 := And.intro hHeld hs6
              refine wpAnyH_take (i := 15) (oi := { dst := (some 96), op := (Op.convert 22 9 (Operand.tmp 95)), type := 9, pos := "law.go:88", after := #[{ on := 14, ground := Ground.data }], guard := none }) (v := ?_) rfl (by kernel_rfl) (by kernel_rfl) (by kernel_rfl) (fun _ _ _ h => h) (Or.inl ⟨by rfl, ?_⟩) (by assumption) ?_
              rotate_left
              · intro w hSw
                (try dsimp only at hSw)
                go_simp
                with_reducible rfl
              (try simp only [Act.put, List.setIfInBounds_toArray, List.set_cons_zero, List.set_cons_succ])
              refine wpAnyH_take (i := 16) (oi := { dst := (some 97), op := (Op.binOp BinOp.eql 9 (Operand.tmp 88) (Operand.tmp 96) 9), type := 4, pos := "law.go:88", after := #[{ on := 7, ground := Ground.data }, { on := 15, ground := Ground.data }], guard := none }) (v := ?_) rfl (by kernel_rfl) (by kernel_rfl) (by kernel_rfl) (fun _ _ _ h => h) (Or.inl ⟨by rfl, ?_⟩) (by assumption) ?_
              rotate_left
              · intro w hSw
                (try dsimp only at hSw)
                go_simp
                with_reducible rfl
              (try simp only [Act.put, List.setIfInBounds_toArray, List.set_cons_zero, List.set_cons_succ])
              refine wpAnyH_take (i := 17) (oi := { dst := (some 10), op := (Op.assign (Operand.tmp 97)), type := 4, pos := "law.go:88", after := #[{ on := 16, ground := Ground.data }, { on := 14, ground := Ground.chain }, { on := 0, ground := Ground.phase }, { on := 1, ground := Ground.phase }, { on := 2, ground := Ground.phase }, { on := 3, ground := Ground.phase }, { on := 4, ground := Ground.phase }, { on := 5, ground := Ground.phase }, { on := 6, ground := Ground.phase }, { on := 7, ground := Ground.phase }, { on := 8, ground := Ground.phase }, { on := 9, ground := Ground.phase }, { on := 10, ground := Ground.phase }, { on := 11, ground := Ground.phase }, { on := 12, ground := Ground.phase }, { on := 13, ground := Ground.phase }, { on := 14, ground := Ground.phase }, { on := 15, ground := Ground.phase }, { on := 16, ground := Ground.phase }], guard := none }) (v := ?_) rfl (by kernel_rfl) (by kernel_rfl) (by kernel_rfl) (fun _ _ _ h => h) (Or.inl ⟨by rfl, ?_⟩) (by assumption) ?_
              rotate_left
              · intro w hSw
                (try dsimp only at hSw)
                go_simp
                with_reducible rfl
              (try simp only [Act.put, List.setIfInBounds_toArray, List.set_cons_zero, List.set_cons_succ])
              refine wpAnyH_done (by kernel_rfl) ?_ _
              go_wp2_with fail
              go_meet
              exact ⟨rfl, r', hp', hB'⟩
            have kb3 : (K == 3) = false := by simp [k3]
            by_cases k4 : K = 4
            · have kb : (K == 4) = true := by simp [k4]
              obtain ⟨⟨m, r'⟩, hm⟩ : ∃ q, r.bytes ((r.p.length : Int) - r.at_) = q := ⟨_, rfl⟩
              have hi := bytes_inv r ((r.p.length : Int) - r.at_) hrb hB.a.le
              rw [hm] at hi
              simp only at hi
              have hp' : Hid (r'.p = p) := by rw [hi.1]; exact hp
              have hpp := Lib.hid hi.1
              have hBd := hB.drewN 1
              have HU : Calls Try.prog 22 #[.pointer (some ⟨g, 0, none⟩)] wr.drew _ := Rest_any hBd.a (by rw [hp.out]; omega)
              have HN := fun (W : World) (h : RrAt W g2 x2 r) => RRest_any h (by rw [hp.out]; omega)
              rw [hm] at HU HN
              clear hm hi hcK hcN
              have hlg := (Array.getElem?_eq_some_iff.1 hB.b.row).1
              go_wp2
              refine wp_region_held_drew (S := (fun W => True)) (by kernel_rfl) (trivial) (fun hHeld => ?_)
              refine wpAnyH_take (i := 0) (oi := { dst := (some 100), op := (Op.move (Operand.tmp 6)), type := 25, pos := "law.go:90", after := #[], guard := none }) (v := ?_) rfl (by kernel_rfl) (by kernel_rfl) (by kernel_rfl) (fun _ _ _ h => h) (Or.inl ⟨by rfl, ?_⟩) (by assumption) ?_
              rotate_left
              · intro w hSw
                (try dsimp only at hSw)
                go_simp
                with_reducible rfl
              (try simp only [Act.put, List.setIfInBounds_toArray, List.set_cons_zero, List.set_cons_succ])
              refine wpAnyH_take (i := 3) (oi := { dst := (some 103), op := (Op.move (Operand.tmp 7)), type := 27, pos := "law.go:90", after := #[], guard := none }) (v := ?_) rfl (by kernel_rfl) (by kernel_rfl) (by kernel_rfl) (fun _ _ _ h => h) (Or.inl ⟨by rfl, ?_⟩) (by assumption) ?_
              rotate_left
              · intro w hSw
                (try dsimp only at hSw)
                go_simp
                with_reducible rfl
              (try simp only [Act.put, List.setIfInBounds_toArray, List.set_cons_zero, List.set_cons_succ])
              refine wpAnyH_ready (rs := [1]) (by kernel_rfl) (by simp) ?_
              refine AllReadyH.cons (o := { dst := (some 101), op := (Op.call { callee := (Callee.value (Operand.func 22)), args := #[(Operand.tmp 100)], argTypes := #[25] }), type := 22, pos := "law.go:90", after := #[{ on := 0, ground := Ground.data }], guard := none }) rfl (fun K hK => ?_) AllReadyH.nil
              go_simp
              refine HU.mono ?_
              rintro e w5 ⟨v5, rfl, hb5, hr5, hf5⟩
              have hH := hBd.half hr5 hf5 hpp.out
              obtain ⟨A5, c5, rfl, -⟩ := id hb5
              have hs5 := conv_str hb5
              refine hK.out _ _ ?_ (fun hHeld => ?_)
              · exact trivial
              clear hK K
              (try simp only [Act.put, List.setIfInBounds_toArray, List.set_cons_zero, List.set_cons_succ])
              refine wpAnyH_more (S' := (fun W => True ∧ (convert 22 9 (.slice A5 m.length c5)).run Try.prog W = .ok (.string (strOfNums m)) W)) (fun _ h => h.1) ?_
              have hHeld2 := And.intro trivial hs5
              refine wpAnyH_take (i := 2) (oi := { dst := (some 102), op := (Op.convert 22 9 (Operand.tmp 101)), type := 9, pos := "law.go:90", after := #[{ on := 1, ground := Ground.data }], guard := none }) (v := ?_) rfl (by kernel_rfl) (by kernel_rfl) (by kernel_rfl) (fun _ _ _ h => h) (Or.inl ⟨by rfl, ?_⟩) (by assumption) ?_
              rotate_left
              · intro w hSw
                (try dsimp only at hSw)
                go_simp
                with_reducible rfl
              (try simp only [Act.put, List.setIfInBounds_toArray, List.set_cons_zero, List.set_cons_succ])
              refine wpAnyH_ready (rs := [4]) (by kernel_rfl) (by simp) ?_
              refine AllReadyH.cons (o := { dst := (some 104), op := (Op.call { callee := (Callee.value (Operand.func 23)), args := #[(Operand.tmp 103)], argTypes := #[27] }), type := 22, pos := "law.go:90", after := #[{ on := 3, ground := Ground.data }, { on := 1, ground := Ground.chain }], guard := none }) rfl (fun K hK => ?_) AllReadyH.nil
              go_simp
              refine (HN _ hH.b).mono ?_
              rintro e w6 ⟨v6, rfl, hb6, hr6, hf6⟩
              have hB' := hH.both hr6 hf6
              have hb5' := hb5.fr hf6 (fun b _ h => by subst h; exact hlg)
              obtain ⟨A6, c6, rfl, -⟩ := id hb6
              have hs6 := conv_str hb6
              refine hK.out _ _ ?_ (fun hHeld => ?_)
              · exact ⟨trivial, conv_str hb5'⟩
              clear hK K
              (try simp only [Act.put, List.setIfInBounds_toArray, List.set_cons_zero, List.set_cons_succ])
              refine wpAnyH_more (S' := (fun W => (True ∧ (convert 22 9 (.slice A5 m.length c5)).run Try.prog W = .ok (.string (strOfNums m)) W) ∧ (convert 22 9 (.slice A6 m.length c6)).run Try.prog W = .ok (.string (strOfNums m)) W)) (fun _ h => h.1) ?_
              have hHeld3 := And.intro hHeld hs6
              refine wpAnyH_take (i := 5) (oi := { dst := (some 105), op := (Op.convert 22 9 (Operand.tmp 104)), type := 9, pos := "law.go:90", after := #[{ on := 4, ground := Ground.data }], guard := none }) (v := ?_) rfl (by kernel_rfl) (by kernel_rfl) (by kernel_rfl) (fun _ _ _ h => h) (Or.inl ⟨by rfl, ?_⟩) (by assumption) ?_
              rotate_left
              · intro w hSw
                (try dsimp only at hSw)
                go_simp
                with_reducible rfl
              (try simp only [Act.put, List.setIfInBounds_toArray, List.set_cons_zero, List.set_cons_succ])
              refine wpAnyH_take (i := 6) (oi := { dst := (some 106), op := (Op.binOp BinOp.eql 9 (Operand.tmp 102) (Operand.tmp 105) 9), type := 4, pos := "law.go:90", after := #[{ on := 2, ground := Ground.data }, { on := 5, ground := Ground.data }], guard := none }) (v := ?_) rfl (by kernel_rfl) (by kernel_rfl) (by kernel_rfl) (fun _ _ _ h => h) (Or.inl ⟨by rfl, ?_⟩) (by assumption) ?_
              rotate_left
              · intro w hSw
                (try dsimp only at hSw)
                go_simp
                with_reducible rfl
              (try simp only [Act.put, List.setIfInBounds_toArray, List.set_cons_zero, List.set_cons_succ])
              refine wpAnyH_take (i := 7) (oi := { dst := (some 10), op := (Op.assign (Operand.tmp 106)), type := 4, pos := "law.go:90", after := #[{ on := 6, ground := Ground.data }, { on := 4, ground := Ground.chain }, { on := 0, ground := Ground.phase }, { on := 1, ground := Ground.phase }, { on := 2, ground := Ground.phase }, { on := 3, ground := Ground.phase }, { on := 4, ground := Ground.phase }, { on := 5, ground := Ground.phase }, { on := 6, ground := Ground.phase }], guard := none }) (v := ?_) rfl (by kernel_rfl) (by kernel_rfl) (by kernel_rfl) (fun _ _ _ h => h) (Or.inl ⟨by rfl, ?_⟩) (by assumption) ?_
              rotate_left
              · intro w hSw
                (try dsimp only at hSw)
                go_simp
                with_reducible rfl
              (try simp only [Act.put, List.setIfInBounds_toArray, List.set_cons_zero, List.set_cons_succ])
              refine wpAnyH_done (by kernel_rfl) ?_ _
              go_wp2_with fail
              go_meet
              exact ⟨rfl, r', hp', hB'⟩
            have kb4 : (K == 4) = false := by simp [k4]
            by_cases k5 : K = 5
            · have kb : (K == 5) = true := by simp [k5]
              have hpp : (r.fail N).p = r.p := by unfold Rd.fail; split <;> rfl
              have hp' : Hid ((r.fail N).p = p) := by rw [hpp]; exact hp
              have Hpp := Lib.hid hpp
              clear hpp
              go_wp2_with (first
                | (go_at_call 24; refine (Fail_any hB.a N).mono ?_; rintro e w5 ⟨rfl, hr5, hf5⟩; have hH := hB.half hr5 hf5 Hpp.out; have hcN' : w5.cell? ⟨b, o + j * 2 + 1, none⟩ = some (.int .i64 N) := hf5.cell hcN hcNg.1)
                | (go_at_call 25; refine (RFail_any hH.b N).mono ?_; rintro e w6 ⟨rfl, hr6, hf6⟩; have hB' := hH.both hr6 hf6))
              go_meet
              exact ⟨rfl, r.fail N, hp', hB'⟩
            have kb5 : (K == 5) = false := by simp [k5]
            go_wp2_with fail
            go_meet
            exact ⟨rfl, r, hp, hB⟩
          case rest =>
            obtain ⟨rfl, r', hp', hB'⟩ := hcut
            clear hB hp ib hrb hcK hcN hcNg
            have hle := hB'.a.le
            go_wp2_with (go_at_call 26; refine (Why_any hB'.a).mono ?_; rintro e w7 ⟨rfl, n7, hw7⟩; have hB2 := hB'.drewN n7; rw [← hw7] at hB2; clear hw7 hB')
            have hpl : r'.p.length = p.length := by rw [hp'.out]
            have HL := fun n => Left_any (hB2.drewN n).a
            rw [hpl] at HL
            have HD := fun n => Done_any (hB2.drewN n).a
            have HA := fun n => At_any (hB2.drewN n).a
            have HR := fun n => RDone_any (hB2.drewN n).b
            have c1 := hB2.b.c1; have c2 := hB2.b.c2; have c3 := hB2.b.c3
            have HL := Lib.hid HL; have HD := Lib.hid HD; have HA := Lib.hid HA; have HR := Lib.hid HR
            have hle' : r'.at_ ≤ p.length := by rw [← hpl]; exact hle
            have hwr : IntKind.i64.wrap ((p.length : Int) - r'.at_) = (p.length : Int) - r'.at_ := by exact IntWalk.i64_in _ (by omega)
            clear hpl hle
            go_quiet (first
              | (go_at_call 27; exact Calls.quiet_of_same (num_any _ _))
              | (go_at_call 28; exact Calls.quiet_of_same (HA.out _))
              | (go_at_call 29; exact Calls.quiet_of (HL.out _))
              | (go_at_call 30; exact Calls.quiet_of (HD.out _))
              | (go_at_call 31; exact Calls.quiet_of (HR.out _)))
            go_wp2
            go_roundw
            case rel => exact ⟨j + 1, r', by omega, by go_num, hp', hB2.drewN _⟩
            case measure => simp [intOf]; omega
        · obtain rfl : j = l.length := by omega
          go_wp2_with (go_at_call 13; refine (live_any _).mono ?_; rintro e w11 ⟨rfl, hf11⟩)
          go_ret
          exact ⟨rfl, hB.bel.trans ((hf11.below (fun _ h => h.elim)).mono hB.bel.size)⟩

set_option maxRecDepth 100000 in
set_option maxHeartbeats 1600000 in
theorem OctetReads_walk (v0 : Value) (l0 : List Int) (v1 : Value) (l1 : List (Int × Int)) {w : World}
    (h0 : Row w (fun _ => False) 1 v0 l0.length (nums .u8 l0)) (f0 : ∀ x ∈ l0, (Lit.int .u8 x).wf = true) (y0 : l0.length * 1 ≤ 140737488351232)
    (h1 : Row w (fun _ => False) 2 v1 l1.length (l1.map stepC).flatten) (w' : World) (hw : w' = w) :
    Calls Try.prog 3 #[v0, v1] w' fun e w' => e = .returned (.bool true) ∧ Below w.heap.size w w' := by
  subst hw
  by_cases c : l0.length ≤ 20000 ∧ l1.length ≤ 60
  · exact OctetReads_main (bs_of_row h0 f0) h1 c.1 c.2
  · obtain ⟨A0, c0, rfl, -⟩ := h0.head
    obtain ⟨A1, c1, rfl, -⟩ := h1.head
    clear h0 h1 f0
    by_cases d0 : 20000 < l0.length
    · have e0 : decide (20000 < l0.length) = true := by simp; omega
      go_enter Try.func3, Try.ntmps3
      go_wp2_with (go_at_call 13; refine (live_any _).mono ?_; rintro e w1 ⟨rfl, hf⟩)
      go_ret
      exact ⟨rfl, hf.below (fun _ h => h.elim)⟩
    · have e0 : decide (20000 < l0.length) = false := by simp; omega
      have e1 : decide (60 < l1.length) = true := by simp; omega
      go_enter Try.func3, Try.ntmps3
      go_wp2_with (go_at_call 13; refine (live_any _).mono ?_; rintro e w1 ⟨rfl, hf⟩)
      go_ret
      exact ⟨rfl, hf.below (fun _ h => h.elim)⟩
end Go.Proofs.Ytgfhhnmhpncnlaa
