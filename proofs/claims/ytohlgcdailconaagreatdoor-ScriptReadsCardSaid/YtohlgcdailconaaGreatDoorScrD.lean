/- script's Read. -/
import Derived.Test.YtohlgcdailconaaGreatDoorScrL
namespace Go.Proofs.YtohlgcdailconaaGreatDoor.Scr
open Go.RowKit Lib
set_option linter.unusedVariables false
set_option linter.unusedSimpArgs false
def zeroS : Sc := ⟨0, [], [], [], []⟩
def finT (r : Tx) (s : Sc) (n : Int) : Sc × Int × Int := if r ≠ [] ∨ n < 2 then (zeroS, n + 1, 320) else (s, 0, 0)
def goL : List Tx → Sc → Int → Bool → Sc × Int × Int
  | [], s, n, f => finT [] s n
  | [r], s, n, f => finT r s n
  | l :: r :: more, s, n, f => match lineT s n f l with | none => (zeroS, n + 1, 320) | some st => goL (r :: more) st.1 (n + 1) st.2
def readT (t : Tx) : Sc × Int × Int := if 1048576 < t.length then (zeroS, 0, 5) else goL (spl 10 t) zeroS 0 false
theorem Rdr.not_foot {w : World} {b k : Nat} {ev iv av : Value} {s : Sc} {n : Int} {f : Bool} {cs : Array Value} {T : TypeId} {fr : Nat × Nat} (h : Rdr w b ev iv av s n f) (hk : w.heap[k]? = some (.cells cs T fr)) (hT : T ≠ 66 ∧ T ≠ 22 ∧ T ≠ 9 ∧ T ≠ 44) : ¬ foot b ev iv av k := by
  rintro (rfl | e | e | e)
  · have := h.blk
    rw [hk] at this
    cases this
    exact hT.1 rfl
  · exact own_ne h.e hk hT.2.1 e
  · exact own_ne h.i hk hT.2.2.1 e
  · exact own_ne h.a hk hT.2.2.2 e
theorem read1 {w : World} {b b4 bt : Nat} {ev iv av : Value} {s : Sc} {n : Int} {f : Bool} {t : Tx} (h : Laid w) (hr : Rdr w b ev iv av s n f) (h100 : ∀ k, foot b ev iv av k → 8 ≤ k) (hs : n = 0 → s.pages = 0 ∧ s.exts = []) (hal : s.acts.length ≤ 1048576) (ht : t.length ≤ 1048576)
    (h4 : w.cell? ⟨b4, 0, none⟩ = some (.pointer (some ⟨b, 0, none⟩))) (h5 : w.cell? ⟨bt, 0, none⟩ = some (str t)) :
    Calls Tryz.prog 31 #[.pointer (some ⟨b4, 0, none⟩), .pointer (some ⟨bt, 0, none⟩)] w (LineP w b ev iv av s n f t) := by
  have HL := Lib.hid (line h hr h100 hs hal ht)
  have HY := Lib.hid fun V (st : Sc × Bool) (hm : Mod (foot b ev iv av) w V) (hl : lineT s n f t = some st) (h : ∃ ev' iv' av', Rdr V b ev' iv' av' st.1 n st.2 ∧ ∀ k, foot b ev' iv' av' k → foot b ev iv av k ∨ w.heap.size ≤ k) => (show LineP w b ev iv av s n f t (.returned (.tuple #[])) V from ⟨hm, by rw [hl]; exact ⟨rfl, h⟩⟩)
  have HN := Lib.hid fun V (hm : Mod (foot b ev iv av) w V) (hl : lineT s n f t = none) (h : V.cell? ⟨b, 5, none⟩ = some (.int .i64 n)) => (show LineP w b ev iv av s n f t bad V from ⟨hm, by rw [hl]; exact ⟨rfl, h⟩⟩)
  unfold str at h5
  unfold str at HL
  unfold LineP at HL
  generalize LineP w b ev iv av s n f t = PQ at *
  clear h hr h100 hs
  go_enter Tryz.func31, Tryz.ntmps31
  go_wp2_with fail
  refine HL.out.mono ?_
  rintro e w1 ⟨hm, hp⟩
  cases hl : lineT s n f t with
  | none =>
    rw [hl] at hp
    obtain ⟨rfl, h5⟩ := hp
    exact ⟨rfl, HN.out _ hm hl h5⟩
  | some st =>
    rw [hl] at hp
    obtain ⟨rfl, hx⟩ := hp
    have HF := Lib.hid (HY.out _ _ hm hl hx)
    clear hm hl hx
    go_wp2
    go_end0
    exact HF.out
theorem flat_get {k : Nat} : ∀ (rows : List (List Value)), (∀ r, r ∈ rows → r.length = k) → ∀ (i j : Nat) (r : List Value) (v : Value), rows[i]? = some r → r[j]? = some v → rows.flatten[i * k + j]? = some v
  | [], _, i, j, r, v, h, _ => by simp at h
  | x :: xs, hk, 0, j, r, v, h, hv => by
    simp at h
    subst h
    have hl := (List.getElem?_eq_some_iff.1 hv).1
    rw [List.flatten_cons, Nat.zero_mul, Nat.zero_add, List.getElem?_append_left hl]
    exact hv
  | x :: xs, hk, i + 1, j, r, v, h, hv => by
    have hx := hk x (by simp)
    rw [List.flatten_cons, List.getElem?_append_right (by rw [hx, Nat.add_mul]; omega), hx]
    rw [show (i + 1) * k + j - k = i * k + j by rw [Nat.add_mul]; omega]
    exact flat_get xs (fun r hr => hk r (by simp [hr])) i j r v (by simpa using h) hv
theorem flat_len {k : Nat} : ∀ (rows : List (List Value)), (∀ r, r ∈ rows → r.length = k) → rows.flatten.length = rows.length * k
  | [], _ => by simp
  | x :: xs, hk => by
    rw [List.flatten_cons, List.length_append, hk x (by simp), flat_len xs fun r hr => hk r (by simp [hr]), List.length_cons, Nat.add_mul]
    omega
theorem own_Rd {w : World} {base k : Nat} {e : TypeId} {v : Value} {n : Nat} {rows : List (List Value)} (hk : ∀ r, r ∈ rows → r.length = k) (hn : n = rows.length) (h : w.ownsRow base e k v n rows.flatten) : ∃ a c, v = .slice a n c ∧ Rd w a k rows := by
  rcases h.2 with ⟨rfl, h0⟩ | ⟨g, cap, cur, rfl, _, hg, h1, h2, h3, h4⟩
  · subst hn
    have := List.length_eq_zero_iff.1 h0
    subst this
    exact ⟨none, 0, rfl, Rd.nil _ _ _⟩
  · refine ⟨_, cap, rfl, fun i r hr => ⟨g, 0, rfl, lt_of_block hg, fun j u hu => ?_⟩⟩
    have hf := flat_get rows hk i j r u hr hu
    have hl : i * k + j < n * k := by
      have := (List.getElem?_eq_some_iff.1 hf).1
      rw [flat_len rows hk] at this
      rw [hn]
      exact this
    unfold World.cell?
    rw [hg]
    show cur[0 + i * k + j]? = _
    rw [← h4] at hf
    rw [List.getElem?_take_of_lt hl] at hf
    simpa using hf
theorem flat_one {X : Type} (f : X → Value) (l : List X) : (l.map fun x => [f x]).flatten = l.map f := by
  induction l with
  | nil => rfl
  | cons x r ih => simp [ih]
/-- What was read lies about as a script does. -/
theorem Rdr.script {w : World} {b : Nat} {ev iv av : Value} {s : Sc} {n : Int} {f : Bool} (h : Rdr w b ev iv av s n f) : ∃ p : SA, ScR w p s ∧ ev = .slice p.ea s.exts.length p.ec ∧ iv = .slice p.ia s.imgs.length p.ic ∧ av = .slice p.aa s.acts.length p.ac := by
  obtain ⟨ea, ec, h1, r1⟩ := own_Rd (k := 1) (n := s.exts.length) (rows := s.exts.map fun x => [Value.int .u32 x]) (fun r hr => by obtain ⟨x, _, rfl⟩ := List.mem_map.1 hr; rfl) (by simp) (by rw [flat_one]; exact h.e)
  obtain ⟨ia, ic, h2, r2⟩ := own_Rd (k := 1) (n := s.imgs.length) (rows := s.imgs.map fun x => [str x]) (fun r hr => by obtain ⟨x, _, rfl⟩ := List.mem_map.1 hr; rfl) (by simp) (by rw [flat_one]; exact h.i)
  obtain ⟨aa, ac, h3, r3⟩ := own_Rd (k := 4) (n := s.acts.length) (rows := s.acts.map acC) (fun r hr => by obtain ⟨x, _, rfl⟩ := List.mem_map.1 hr; rfl) (by simp) (by rw [← List.flatMap_def]; exact h.a)
  exact ⟨⟨ea, ec, ia, ic, aa, ac⟩, ⟨r1, r2, r3⟩, h1, h2, h3⟩
theorem Rdr.scr {w : World} {b : Nat} {p : SA} {s : Sc} {n : Int} {f : Bool} (h : Rdr w b (.slice p.ea s.exts.length p.ec) (.slice p.ia s.imgs.length p.ic) (.slice p.aa s.acts.length p.ac) s n f) : ScR w p s := by
  obtain ⟨q, hs, e1, e2, e3⟩ := h.script
  obtain ⟨a1, a2, a3, a4, a5, a6⟩ := p
  obtain ⟨b1, b2, b3, b4, b5, b6⟩ := q
  simp only [Value.slice.injEq, true_and] at e1 e2 e3
  obtain ⟨rfl, rfl⟩ := e1
  obtain ⟨rfl, rfl⟩ := e2
  obtain ⟨rfl, rfl⟩ := e3
  exact hs
theorem set5 {V : World} {b : Nat} {T : TypeId} {a0 a1 a2 a3 a4 : Value} (h0 : V.heap[b]? = some (.cells #[a0, a1, a2, a3, a4] T (0, 0))) (x y z u v : Value) : (((((V.setCell ⟨b, 0, none⟩ x).setCell ⟨b, 1, none⟩ y).setCell ⟨b, 2, none⟩ z).setCell ⟨b, 3, none⟩ u).setCell ⟨b, 4, none⟩ v).heap[b]? = some (.cells #[x, y, z, u, v] T (0, 0)) := by
  have b1 := heap_setCell_same V b 0 _ _ x h0
  have b2 := heap_setCell_same _ b 1 _ _ y b1
  have b3 := heap_setCell_same _ b 2 _ _ z b2
  have b4 := heap_setCell_same _ b 3 _ _ u b3
  exact heap_setCell_same _ b 4 _ _ v b4
theorem setCell_same {w : World} {b i : Nat} {v : Value} (h : w.cell? ⟨b, i, none⟩ = some v) : w.setCell ⟨b, i, none⟩ v = w := by
  unfold World.cell? at h
  unfold World.setCell
  have : ∀ F : Obj → Obj, (∀ o, w.heap[b]? = some o → F o = o) → ({ w with heap := w.heap.modify b F } : World) = w := by
    intro F hF
    have : w.heap.modify b F = w.heap := by
      apply Array.ext
      · simp
      · intro j h1 h2
        rw [Array.getElem_modify]
        split
        · rename_i e1
          subst e1
          exact hF _ (Array.getElem?_eq_getElem h2)
        · rfl
    rw [this]
  refine this _ fun o ho => ?_
  simp only [ho] at h
  cases o with
  | cells c e f =>
    simp at h
    simp only [Option.isSome_none, Bool.false_eq_true, if_false]
    congr 1
    apply Array.ext
    · simp
    · intro k k1 k2
      rw [Array.getElem_setIfInBounds k2]
      split
      · rename_i e2
        subst e2
        rw [Array.getElem?_eq_getElem k2] at h
        exact (Option.some.inj h).symm
      · rfl
  | _ => rfl
theorem lineT_acts {s s' : Sc} {n : Int} {f f' : Bool} {t : Tx} (h : lineT s n f t = some (s', f')) : s'.acts.length ≤ s.acts.length + 1 := by
  unfold lineT at h
  obtain ⟨l, hl, h⟩ := Option.bind_eq_some_iff.1 h
  unfold lineW at h
  split at h
  · obtain ⟨st, _, h⟩ := Option.map_eq_some_iff.1 h
    cases h
    simp
  · split at h
    · split at h
      · split at h
        · obtain ⟨st, _, h⟩ := Option.map_eq_some_iff.1 h
          cases h
          simp
        · cases h
      · cases h
    · split at h
      · cases h
      · split at h
        · split at h
          · unfold imgO at h
            split at h
            · obtain ⟨st, _, h⟩ := Option.map_eq_some_iff.1 h
              cases h
              simp
            · cases h
          · cases h
        · obtain ⟨st, _, h⟩ := Option.map_eq_some_iff.1 h
          cases h
          simp
def ReadP (w : World) (t : Tx) (e : Ending) (w' : World) : Prop :=
  Below w.heap.size w w' ∧ ∃ p : SA, ScR w' p (readT t).1 ∧ e = .returned (.tuple #[.agg (p.cells (readT t).1), .int .i64 (readT t).2.1, .int .i64 (readT t).2.2])
def zeroA : SA := ⟨none, 0, none, 0, none, 0⟩
theorem zero_ScR (w : World) : ScR w zeroA zeroS := ⟨Rd.nil _ _ _, Rd.nil _ _ _, Rd.nil _ _ _⟩
def scBlk (p : SA) (s : Sc) : Obj := .cells (p.cells s) 29 (0, 0)
theorem setCell_zero {V : World} {b : Nat} (h : V.heap[b]? = some (scBlk zeroA zeroS)) : ((((V.setCell ⟨b, 0, none⟩ (.int .u32 0)).setCell ⟨b, 1, none⟩ (.slice none 0 0)).setCell ⟨b, 2, none⟩ (.string ⟨#[]⟩)).setCell ⟨b, 3, none⟩ (.slice none 0 0)).setCell ⟨b, 4, none⟩ (.slice none 0 0) = V := by
  obtain ⟨z0, z1, z2, z3, z4⟩ := blk5 (p := zeroA) (s := zeroS) h
  have h0 := setCell_same z0
  have h1 := setCell_same z1
  have h2 := setCell_same z2
  have h3 := setCell_same z3
  have h4 := setCell_same z4
  simp only [zeroA, zeroS, str, List.length_nil] at h0 h1 h2 h3 h4
  rw [h0, h1, h2, h3, h4]
/-- At the head of each round of Read. -/
structure RdLoop (w wr : World) (b : Nat) (t rest : Tx) (ev iv av : Value) (s : Sc) (n : Int) (f : Bool) : Prop where
  r : Rdr wr b ev iv av s n f
  go : goL (spl 10 rest) s n f = readT t
  res : wr.heap[w.heap.size]? = some (scBlk zeroA zeroS)
  ptr : wr.heap[w.heap.size + 1 + 1]? = some (.cells #[.pointer (some ⟨b, 0, none⟩)] 64 (0, 0))
  below : Below w.heap.size w wr
  ft : ∀ k, foot b ev iv av k → w.heap.size ≤ k
  n0 : 0 ≤ n
  nl : n + rest.length ≤ t.length
  fresh : n = 0 → s.pages = 0 ∧ s.exts = []
  al : (s.acts.length : Int) ≤ n
theorem RdLoop.drew {w wr : World} {b : Nat} {t rest : Tx} {ev iv av : Value} {s : Sc} {n : Int} {f : Bool} (h : RdLoop w wr b t rest ev iv av s n f) (q : Nat) : RdLoop w (wr.drewN q) b t rest ev iv av s n f :=
  { h with r := ⟨h.r.blk, h.r.e, h.r.i, h.r.a⟩, below := ⟨h.below.os, h.below.tape, h.below.output, h.below.size, h.below.block⟩ }
theorem RdLoop.step {w wr V : World} {b : Nat} {t rest : Tx} {ev iv av : Value} {s : Sc} {n : Int} {f : Bool} (h : RdLoop w wr b t rest ev iv av s n f) (hb : Below wr.heap.size wr V) : RdLoop w V b t rest ev iv av s n f :=
  { h with r := h.r.below hb, res := (hb.block _ (lt_of_block h.res)).trans h.res, ptr := (hb.block _ (lt_of_block h.ptr)).trans h.ptr, below := below_th h.below hb }
set_option maxRecDepth 100000 in
set_option maxHeartbeats 4000000 in
theorem read {w : World} {t : Tx} (h : Laid w) (ht : t.length ≤ 1048576) : Calls Tryz.prog 15 #[str t] w (ReadP w t) := by
  have HFin := Lib.hid fun V p s n e (hv : readT t = (s, n, e)) (hb : Below w.heap.size w V) (hr : ScR V p s) => (show ReadP w t (.returned (.tuple #[.agg (p.cells s), .int .i64 n, .int .i64 e])) V from ⟨hb, p, by rw [hv]; exact hr, by rw [hv]⟩)
  have HGo : Hid (goL (spl 10 t) zeroS 0 false = readT t) := Lib.hid (by unfold readT; rw [if_neg (by omega)])
  generalize ReadP w t = PQ at *
  have H := Lib.hid h
  have hmf : ∀ (fn : Fn) (first cap : Array Value) (w : World), (Instr.makeFunc fn first cap).run Tryz.prog w = .ok (.func fn first cap) w := fun _ _ _ _ => rfl
  have hnl : ¬ ((1048576 : Int) < t.length) := by omega
  clear h
  unfold str
  go_enter Tryz.func15, Tryz.ntmps15
  go_wp2_with fail
  have HL0 : Hid (RdLoop w (((w.alloc (.cells #[.int .u32 0, .slice none 0 0, .string ⟨#[]⟩, .slice none 0 0, .slice none 0 0] 29)).alloc (.cells #[.int .u32 0, .slice none 0 0, .string ⟨#[]⟩, .slice none 0 0, .slice none 0 0, .int .i64 0, .bool false] 66)).alloc (.cells #[.pointer (some ⟨w.heap.size + 1, 0, none⟩)] 64)) (w.heap.size + 1) t t (.slice none 0 0) (.slice none 0 0) (.slice none 0 0) zeroS 0 false) := Lib.hid {
    r := ⟨by
      refine (Below.heap_alloc _ _ _ (by simp)).trans ?_
      have := heap_alloc_new (w.alloc (.cells #[.int .u32 0, .slice none 0 0, .string ⟨#[]⟩, .slice none 0 0, .slice none 0 0] 29)) (.cells #[.int .u32 0, .slice none 0 0, .string ⟨#[]⟩, .slice none 0 0, .slice none 0 0, .int .i64 0, .bool false] 66)
      simpa [zeroS, str] using this, World.ownsRow_nil _ _ _ _, World.ownsRow_nil _ _ _ _, World.ownsRow_nil _ _ _ _⟩
    go := HGo.out
    res := (Below.heap_alloc _ _ _ (by simp; omega)).trans ((Below.heap_alloc _ _ _ (by simp)).trans (heap_alloc_new _ _))
    ptr := by
      have := heap_alloc_new ((w.alloc (.cells #[.int .u32 0, .slice none 0 0, .string ⟨#[]⟩, .slice none 0 0, .slice none 0 0] 29)).alloc (.cells #[.int .u32 0, .slice none 0 0, .string ⟨#[]⟩, .slice none 0 0, .slice none 0 0, .int .i64 0, .bool false] 66)) (.cells #[.pointer (some ⟨w.heap.size + 1, 0, none⟩)] 64)
      simpa using this
    below := (((Below.refl _ _).alloc (Nat.le_refl _) _).alloc (by simp) _).alloc (by simp; omega) _
    ft := by
      rintro k (rfl | hk | hk | hk)
      · omega
      · cases hk
      · cases hk
      · cases hk
    n0 := by decide
    nl := by omega
    fresh := fun _ => ⟨rfl, rfl⟩
    al := by simp [zeroS] }
  generalize ((w.alloc (.cells #[.int .u32 0, .slice none 0 0, .string ⟨#[]⟩, .slice none 0 0, .slice none 0 0] 29)).alloc (.cells #[.int .u32 0, .slice none 0 0, .string ⟨#[]⟩, .slice none 0 0, .slice none 0 0, .int .i64 0, .bool false] 66)).alloc (.cells #[.pointer (some ⟨w.heap.size + 1, 0, none⟩)] 64) = w0 at *
  go_loopw [6, 7, 8, 9] (fun v6 _ _ _ wr => ∃ rest ev iv av s n f, v6 = str rest ∧ RdLoop w wr (w.heap.size + 1) t rest ev iv av s n f) (fun v6 _ _ _ _ => match v6 with | .string x => x.size | _ => 0)
  case atStart => exact ⟨t, _, _, _, _, _, _, rfl, HL0.out⟩
  case round =>
    clear HL0
    obtain ⟨rest, ev, iv, av, s, n, f, rfl, hl⟩ := hrel
    have HLp := Lib.hid hl
    have hrl : rest.length ≤ 1048576 := by have := hl.nl; have := hl.n0; omega
    obtain ⟨m, hm⟩ := (H.out.step hl.below).len
    have HCut := Lib.hid (Tryz.strings_Cut ⟨rest.toArray⟩ ⟨#[10]⟩ m wr (by rw [size_tx]; omega) hm)
    have hcd : ((⟨rest.toArray⟩ : ByteArray).data.toList) = rest := rfl
    have hcn : ((⟨#[10]⟩ : ByteArray).data.toList) = [10] := rfl
    rw [hcd, hcn] at HCut
    clear hl hm hcd hcn
    rcases spl_cut 10 rest with ⟨hi, hsp⟩ | ⟨i, hi, hil, hsp⟩
    · have hcut : Lib.cut rest [10] = (rest, [], false) := by unfold Lib.cut; rw [if_neg (by omega)]
      rw [hcut] at HCut
      have HFi : Hid (readT t = finT rest s n) := Lib.hid (by rw [← HLp.out.go, hsp]; rfl)
      clear hi hsp hcut
      unfold str
      go_wp2_with fail
      refine HCut.out.mono ?_
      rintro e w1 ⟨rfl, q, rfl⟩
      have HLq := Lib.hid (HLp.out.drew q)
      generalize wr.drewN q = w1 at *
      obtain ⟨p, hsr, rfl, rfl, rfl⟩ := HLq.out.r.script
      obtain ⟨c0, c1, c2, c3, c4, c5, c6, cf⟩ := rdr_cells HLq.out.r.blk
      have HSr := Lib.hid hsr
      have zf : ∀ i, w1.frozen? ⟨w.heap.size, i, none⟩ = false := fun i => by unfold World.frozen?; rw [HLq.out.res]; simp [scBlk]
      have hp4 := cell_of_one HLq.out.ptr
      obtain ⟨z0, z1, z2, z3, z4⟩ := blk5 (p := zeroA) (s := zeroS) HLq.out.res
      have hzp := lt_of_block HLq.out.ptr
      have hzr := lt_of_block HLq.out.r.blk
      have hzs := lt_of_block HLq.out.res
      have hn0 := HLp.out.n0
      have hn1 : n ≤ 1048576 := by have := HLp.out.nl; omega
      simp only [zeroA, zeroS, str, List.length_nil] at z0 z1 z2 z3 z4 c2
      clear HCut HLp hsr
      by_cases hb : rest ≠ [] ∨ n < 2
      · have HV : Hid (readT t = (zeroS, n + 1, 320)) := Lib.hid (HFi.out.trans (by unfold finT; rw [if_pos hb]))
        by_cases hre : rest = []
        · have hn2 : n < 2 := hb.resolve_left fun g => g hre
          subst hre
          clear hb
          have HZ := Lib.hid (HLq.out.step (((Below.refl _ _).alloc (Nat.le_refl _) (.cells #[.string ⟨#[]⟩] 9)).drew))
          have HSm := Lib.hid (setCell_zero HZ.out.res)
          obtain ⟨d0, d1, d2, d3, d4⟩ := blk5 (p := zeroA) (s := zeroS) HZ.out.res
          have dn := (rdr_cells HZ.out.r.blk).2.2.2.2.2.1
          have dp := cell_of_one HZ.out.ptr
          have df : ∀ i, (w1.alloc (.cells #[.string ⟨#[]⟩] 9)).drew.frozen? ⟨w.heap.size, i, none⟩ = false := fun i => by unfold World.frozen?; rw [HZ.out.res]; simp [scBlk]
          simp only [zeroA, zeroS, str, List.length_nil] at d0 d1 d2 d3 d4
          go_upto_region 11 with fail
          clear c0 c1 c2 c3 c4 c5 c6 cf hp4 z0 z1 z2 z3 z4 zf
          refine wp_region_held (S := fun w' => w' = (w1.alloc (.cells #[.string ⟨#[]⟩] 9)).drew) (by kernel_rfl) ?_
          change wpAnyH _ _ _ _ _ _ _ _ (w1.alloc (.cells #[.string ⟨#[]⟩] 9)).drew
          generalize hwd : (w1.alloc (.cells #[.string ⟨#[]⟩] 9)).drew = wd at *
          refine H_take (i := 0) (v := ?_) rfl (by kernel_rfl) (by kernel_rfl) (by kernel_rfl) (fun _ _ _ h => h) (Or.inl ⟨by rfl, ?_⟩) rfl ?_
          rotate_left
          · intro W hW; obtain rfl := hW; go_simp; try with_reducible rfl
          try simp only [Act.put, List.getElem_toArray, List.getElem_cons_succ, List.getElem_cons_zero, List.setIfInBounds_toArray, List.set_cons_zero, List.set_cons_succ]
          refine H_take (i := 1) (v := ?_) rfl (by kernel_rfl) (by kernel_rfl) (by kernel_rfl) (fun _ _ _ h => h) (Or.inl ⟨by rfl, ?_⟩) rfl ?_
          rotate_left
          · intro W hW; obtain rfl := hW; go_simp; try with_reducible rfl
          try simp only [Act.put, List.getElem_toArray, List.getElem_cons_succ, List.getElem_cons_zero, List.setIfInBounds_toArray, List.set_cons_zero, List.set_cons_succ]
          refine H_take (i := 2) (v := ?_) rfl (by kernel_rfl) (by kernel_rfl) (by kernel_rfl) (fun _ _ _ h => h) (Or.inl ⟨by rfl, ?_⟩) rfl ?_
          rotate_left
          · intro W hW; obtain rfl := hW; go_simp; try with_reducible rfl
          try simp only [Act.put, List.getElem_toArray, List.getElem_cons_succ, List.getElem_cons_zero, List.setIfInBounds_toArray, List.set_cons_zero, List.set_cons_succ]
          refine H_take (i := 3) (v := ?_) rfl (by kernel_rfl) (by kernel_rfl) (by kernel_rfl) (fun _ _ _ h => h) (Or.inl ⟨by rfl, ?_⟩) rfl ?_
          rotate_left
          · intro W hW; obtain rfl := hW; go_simp; try with_reducible rfl
          try simp only [Act.put, List.getElem_toArray, List.getElem_cons_succ, List.getElem_cons_zero, List.setIfInBounds_toArray, List.set_cons_zero, List.set_cons_succ]
          refine H_take (i := 4) (v := ?_) rfl (by kernel_rfl) (by kernel_rfl) (by kernel_rfl) (fun _ _ _ h => h) (Or.inl ⟨by rfl, ?_⟩) rfl ?_
          rotate_left
          · intro W hW; obtain rfl := hW; go_simp; try with_reducible rfl
          try simp only [Act.put, List.getElem_toArray, List.getElem_cons_succ, List.getElem_cons_zero, List.setIfInBounds_toArray, List.set_cons_zero, List.set_cons_succ]
          refine H_take (i := 5) (v := ?_) rfl (by kernel_rfl) (by kernel_rfl) (by kernel_rfl) (fun _ _ _ h => h) (Or.inl ⟨by rfl, ?_⟩) rfl ?_
          rotate_left
          · intro W hW; obtain rfl := hW; go_simp; try with_reducible rfl
          try simp only [Act.put, List.getElem_toArray, List.getElem_cons_succ, List.getElem_cons_zero, List.setIfInBounds_toArray, List.set_cons_zero, List.set_cons_succ]
          refine H_one (i := 6) (by kernel_rfl) rfl (fun K hK => ?_)
          go_simp
          refine hK.out _ _ HSm.out (fun _ => ?_)
          clear hK K
          try simp only [Act.put, List.getElem_toArray, List.getElem_cons_succ, List.getElem_cons_zero, List.setIfInBounds_toArray, List.set_cons_zero, List.set_cons_succ]
          refine H_take (i := 7) (v := ?_) rfl (by kernel_rfl) (by kernel_rfl) (by kernel_rfl) (fun _ _ _ h => h) (Or.inl ⟨by rfl, ?_⟩) HSm.out ?_
          rotate_left
          · intro W hW; obtain rfl := hW; go_simp; try with_reducible rfl
          try simp only [Act.put, List.getElem_toArray, List.getElem_cons_succ, List.getElem_cons_zero, List.setIfInBounds_toArray, List.set_cons_zero, List.set_cons_succ]
          refine H_take (i := 8) (v := ?_) rfl (by kernel_rfl) (by kernel_rfl) (by kernel_rfl) (fun _ _ _ h => h) (Or.inl ⟨by rfl, ?_⟩) HSm.out ?_
          rotate_left
          · intro W hW; obtain rfl := hW; go_simp; try with_reducible rfl
          try simp only [Act.put, List.getElem_toArray, List.getElem_cons_succ, List.getElem_cons_zero, List.setIfInBounds_toArray, List.set_cons_zero, List.set_cons_succ]
          refine wpAnyH_done (by kernel_rfl) ?_ _
          rw [HSm.out]
          have e0 : IntKind.i64.wrap (n + 1) = n + 1 := by rw [IntKind.wrap_i64]; omega
          rw [e0]
          clear e0
          go_wp2_with fail
          exact bodyPost_ret (v := .tuple #[.agg (zeroA.cells zeroS), .int .i64 (n + 1), .int .i64 320]) (by simp [results, Tryz.results15, go_sem, d0, d1, d2, d3, d4, SA.cells, str, zeroA, zeroS]) rfl (HFin.out _ zeroA zeroS _ _ HV.out HZ.out.below (zero_ScR _))
        · clear hb
          have HZ := Lib.hid (HLq.out.step (((Below.refl _ _).alloc (Nat.le_refl _) (.cells #[.string ⟨rest.toArray⟩] 9)).drew))
          have HSm := Lib.hid (setCell_zero HZ.out.res)
          obtain ⟨d0, d1, d2, d3, d4⟩ := blk5 (p := zeroA) (s := zeroS) HZ.out.res
          have dn := (rdr_cells HZ.out.r.blk).2.2.2.2.2.1
          have dp := cell_of_one HZ.out.ptr
          have df : ∀ i, (w1.alloc (.cells #[.string ⟨rest.toArray⟩] 9)).drew.frozen? ⟨w.heap.size, i, none⟩ = false := fun i => by unfold World.frozen?; rw [HZ.out.res]; simp [scBlk]
          simp only [zeroA, zeroS, str, List.length_nil] at d0 d1 d2 d3 d4
          go_upto_region 11 with fail
          clear c0 c1 c2 c3 c4 c5 c6 cf hp4 z0 z1 z2 z3 z4 zf
          refine wp_region_held (S := fun w' => w' = (w1.alloc (.cells #[.string ⟨rest.toArray⟩] 9)).drew) (by kernel_rfl) ?_
          change wpAnyH _ _ _ _ _ _ _ _ (w1.alloc (.cells #[.string ⟨rest.toArray⟩] 9)).drew
          generalize hwd : (w1.alloc (.cells #[.string ⟨rest.toArray⟩] 9)).drew = wd at *
          refine H_take (i := 0) (v := ?_) rfl (by kernel_rfl) (by kernel_rfl) (by kernel_rfl) (fun _ _ _ h => h) (Or.inl ⟨by rfl, ?_⟩) rfl ?_
          rotate_left
          · intro W hW; obtain rfl := hW; go_simp; try with_reducible rfl
          try simp only [Act.put, List.getElem_toArray, List.getElem_cons_succ, List.getElem_cons_zero, List.setIfInBounds_toArray, List.set_cons_zero, List.set_cons_succ]
          refine H_take (i := 1) (v := ?_) rfl (by kernel_rfl) (by kernel_rfl) (by kernel_rfl) (fun _ _ _ h => h) (Or.inl ⟨by rfl, ?_⟩) rfl ?_
          rotate_left
          · intro W hW; obtain rfl := hW; go_simp; try with_reducible rfl
          try simp only [Act.put, List.getElem_toArray, List.getElem_cons_succ, List.getElem_cons_zero, List.setIfInBounds_toArray, List.set_cons_zero, List.set_cons_succ]
          refine H_take (i := 2) (v := ?_) rfl (by kernel_rfl) (by kernel_rfl) (by kernel_rfl) (fun _ _ _ h => h) (Or.inl ⟨by rfl, ?_⟩) rfl ?_
          rotate_left
          · intro W hW; obtain rfl := hW; go_simp; try with_reducible rfl
          try simp only [Act.put, List.getElem_toArray, List.getElem_cons_succ, List.getElem_cons_zero, List.setIfInBounds_toArray, List.set_cons_zero, List.set_cons_succ]
          refine H_take (i := 3) (v := ?_) rfl (by kernel_rfl) (by kernel_rfl) (by kernel_rfl) (fun _ _ _ h => h) (Or.inl ⟨by rfl, ?_⟩) rfl ?_
          rotate_left
          · intro W hW; obtain rfl := hW; go_simp; try with_reducible rfl
          try simp only [Act.put, List.getElem_toArray, List.getElem_cons_succ, List.getElem_cons_zero, List.setIfInBounds_toArray, List.set_cons_zero, List.set_cons_succ]
          refine H_take (i := 4) (v := ?_) rfl (by kernel_rfl) (by kernel_rfl) (by kernel_rfl) (fun _ _ _ h => h) (Or.inl ⟨by rfl, ?_⟩) rfl ?_
          rotate_left
          · intro W hW; obtain rfl := hW; go_simp; try with_reducible rfl
          try simp only [Act.put, List.getElem_toArray, List.getElem_cons_succ, List.getElem_cons_zero, List.setIfInBounds_toArray, List.set_cons_zero, List.set_cons_succ]
          refine H_take (i := 5) (v := ?_) rfl (by kernel_rfl) (by kernel_rfl) (by kernel_rfl) (fun _ _ _ h => h) (Or.inl ⟨by rfl, ?_⟩) rfl ?_
          rotate_left
          · intro W hW; obtain rfl := hW; go_simp; try with_reducible rfl
          try simp only [Act.put, List.getElem_toArray, List.getElem_cons_succ, List.getElem_cons_zero, List.setIfInBounds_toArray, List.set_cons_zero, List.set_cons_succ]
          refine H_one (i := 6) (by kernel_rfl) rfl (fun K hK => ?_)
          go_simp
          refine hK.out _ _ HSm.out (fun _ => ?_)
          clear hK K
          try simp only [Act.put, List.getElem_toArray, List.getElem_cons_succ, List.getElem_cons_zero, List.setIfInBounds_toArray, List.set_cons_zero, List.set_cons_succ]
          refine H_take (i := 7) (v := ?_) rfl (by kernel_rfl) (by kernel_rfl) (by kernel_rfl) (fun _ _ _ h => h) (Or.inl ⟨by rfl, ?_⟩) HSm.out ?_
          rotate_left
          · intro W hW; obtain rfl := hW; go_simp; try with_reducible rfl
          try simp only [Act.put, List.getElem_toArray, List.getElem_cons_succ, List.getElem_cons_zero, List.setIfInBounds_toArray, List.set_cons_zero, List.set_cons_succ]
          refine H_take (i := 8) (v := ?_) rfl (by kernel_rfl) (by kernel_rfl) (by kernel_rfl) (fun _ _ _ h => h) (Or.inl ⟨by rfl, ?_⟩) HSm.out ?_
          rotate_left
          · intro W hW; obtain rfl := hW; go_simp; try with_reducible rfl
          try simp only [Act.put, List.getElem_toArray, List.getElem_cons_succ, List.getElem_cons_zero, List.setIfInBounds_toArray, List.set_cons_zero, List.set_cons_succ]
          refine wpAnyH_done (by kernel_rfl) ?_ _
          rw [HSm.out]
          have e0 : IntKind.i64.wrap (n + 1) = n + 1 := by rw [IntKind.wrap_i64]; omega
          rw [e0]
          clear e0
          go_wp2_with fail
          exact bodyPost_ret (v := .tuple #[.agg (zeroA.cells zeroS), .int .i64 (n + 1), .int .i64 320]) (by simp [results, Tryz.results15, go_sem, d0, d1, d2, d3, d4, SA.cells, str, zeroA, zeroS]) rfl (HFin.out _ zeroA zeroS _ _ HV.out HZ.out.below (zero_ScR _))
      · have HV : Hid (readT t = (s, 0, 0)) := Lib.hid (HFi.out.trans (by unfold finT; rw [if_neg hb]))
        have hre : rest = [] := Classical.byContradiction fun e => hb (.inl e)
        have hn2 : ¬ n < 2 := fun e => hb (.inr e)
        subst hre
        clear hb
        have hmm : ∀ u0 u1 u2 u3 u4 o, Mod (fun k => k = w.heap.size) w1 ((((((w1.setCell ⟨w.heap.size, 0, none⟩ u0).setCell ⟨w.heap.size, 1, none⟩ u1).setCell ⟨w.heap.size, 2, none⟩ u2).setCell ⟨w.heap.size, 3, none⟩ u3).setCell ⟨w.heap.size, 4, none⟩ u4).alloc o) := fun u0 u1 u2 u3 u4 o =>
          (((((((Mod.refl (fun k => k = w.heap.size) w1).setCell ⟨w.heap.size, 0, none⟩ (.inl rfl) u0).setCell ⟨w.heap.size, 1, none⟩ (.inl rfl) u1).setCell ⟨w.heap.size, 2, none⟩ (.inl rfl) u2).setCell ⟨w.heap.size, 3, none⟩ (.inl rfl) u3).setCell ⟨w.heap.size, 4, none⟩ (.inl rfl) u4).alloc o)
        have HMm := Lib.hid hmm
        have HRs : Hid (∀ o, ((((((w1.setCell ⟨w.heap.size, 0, none⟩ (.int .u32 s.pages)).setCell ⟨w.heap.size, 1, none⟩ (.slice p.ea s.exts.length p.ec)).setCell ⟨w.heap.size, 2, none⟩ (.string ⟨s.key.toArray⟩)).setCell ⟨w.heap.size, 3, none⟩ (.slice p.ia s.imgs.length p.ic)).setCell ⟨w.heap.size, 4, none⟩ (.slice p.aa s.acts.length p.ac)).alloc o).heap[w.heap.size]? = some (wrBlk p s)) := Lib.hid fun o => (Below.heap_alloc _ _ _ (by simp; exact hzs)).trans (set5 HLq.out.res _ _ _ _ _)
        have HNf : Hid (¬ foot (w.heap.size + 1) (.slice p.ea s.exts.length p.ec) (.slice p.ia s.imgs.length p.ic) (.slice p.aa s.acts.length p.ac) w.heap.size) := Lib.hid (HLq.out.r.not_foot HLq.out.res (by decide))
        clear hmm
        go_wp2_with fail
        obtain ⟨e0, e1, e2, e3, e4⟩ := blk5 (p := p) (s := s) (HRs.out (.cells #[.string ⟨#[]⟩] 9))
        unfold str at e2
        exact bodyPost_ret (v := .tuple #[.agg (p.cells s), .int .i64 0, .int .i64 0]) (by simp [results, Tryz.results15, go_sem, e0, e1, e2, e3, e4, SA.cells, str]) rfl (HFin.out _ p s 0 0 HV.out ((HMm.out _ _ _ _ _ _).below HLq.out.below HLq.out.below.size (fun k _ e => by omega)) (HLq.out.r.keep (HMm.out _ _ _ _ _ _) (fun k hk e => HNf.out (by subst e; exact hk))).scr)
    · have hcut : Lib.cut rest [10] = (rest.take i, rest.drop (i + 1), true) := by
        unfold Lib.cut
        rw [hi, if_pos (by omega)]
        rfl
      rw [hcut] at HCut
      have HSp := Lib.hid hsp
      have hxl : (rest.take i).length ≤ 1048576 := by rw [List.length_take]; omega
      have hml : (rest.drop (i + 1)).length + (i + 1) = rest.length := by rw [List.length_drop]; omega
      clear hi hsp hcut
      generalize rest.take i = x at *
      generalize rest.drop (i + 1) = more at *
      unfold str
      go_wp2_with fail
      refine HCut.out.mono ?_
      rintro e w1 ⟨rfl, q, rfl⟩
      have HLq := Lib.hid (HLp.out.drew q)
      clear HCut HLp
      generalize wr.drewN q = w1 at *
      go_wp2_with fail
      have HA := Lib.hid (HLq.out.step ((Below.refl _ _).alloc (Nat.le_refl _) (.cells #[.string ⟨x.toArray⟩] 9)))
      have hbt := heap_alloc_new w1 (.cells #[.string ⟨x.toArray⟩] 9)
      have HSz : Hid ((w1.alloc (.cells #[.string ⟨x.toArray⟩] 9)).heap.size = w1.heap.size + 1) := Lib.hid (by simp)
      have HNb : Hid (¬ foot (w.heap.size + 1) ev iv av w1.heap.size) := Lib.hid fun hf => by have := HLq.out.r.foot_lt _ hf; omega
      have hzt : w.heap.size < w1.heap.size := lt_of_block HLq.out.res
      clear HLq
      generalize w1.heap.size = bt at *
      generalize w1.alloc (.cells #[.string ⟨x.toArray⟩] 9) = w2 at *
      have HBt := Lib.hid hbt
      have hn0 := HA.out.n0
      have hn1 : n ≤ 1048576 := by have := HA.out.nl; omega
      have h100 : 8 ≤ w.heap.size := H.out.big
      have hA2 := (Below.refl w2.heap.size w2).alloc (Nat.le_refl _) (.cells #[.bool false] 4)
      have hA3 := HA.out.step hA2
      have HRd1 := Lib.hid (read1 (w := w2.alloc (.cells #[.bool false] 4)) (b4 := w.heap.size + 1 + 1) (bt := bt) (t := x) (H.out.step hA3.below) hA3.r (fun k hk => Nat.le_trans h100 (hA3.ft k hk)) hA3.fresh (by have := hA3.al; have := hA3.nl; omega) hxl (cell_of_one hA3.ptr) (cell_of_one ((hA2.block _ (lt_of_block hbt)).trans hbt)))
      have HFt : Hid (∀ V, Mod (foot (w.heap.size + 1) ev iv av) (w2.alloc (.cells #[.bool false] 4)) V → V.heap[w2.heap.size]? = some (.cells #[.bool false] 4 (0, 0))) := Lib.hid fun V hV => (hV.block _ (by simp) fun hf => by have := HA.out.r.foot_lt _ hf; omega).trans (heap_alloc_new w2 _)
      have HA3 := Lib.hid hA3
      clear hA2 hA3 hbt
      cases hlt : lineT s n f x with
      | none =>
        have HV : Hid (readT t = (zeroS, n + 1, 320)) := Lib.hid (by
          rw [← HA.out.go, HSp.out]
          cases hm : spl 10 more with
          | nil => exact absurd hm (spl_ne 10 more)
          | cons a b => show (match lineT s n f x with | none => (zeroS, n + 1, 320) | some st => goL (a :: b) st.1 (n + 1) st.2) = _; rw [hlt])
        have HC := Lib.hid (caught_bad (g := 31) (cap := #[.pointer (some ⟨w.heap.size + 1 + 1, 0, none⟩), .pointer (some ⟨bt, 0, none⟩)]) (w := w2) (Q := fun V => Mod (foot (w.heap.size + 1) ev iv av) (w2.alloc (.cells #[.bool false] 4)) V ∧ V.cell? ⟨w.heap.size + 1, 5, none⟩ = some (.int .i64 n)) (enters_of Tryz.func31 (by kernel_rfl) rfl) (HRd1.out.mono fun e w' ⟨hm, hp⟩ => by
          rw [hlt] at hp
          exact ⟨hp.1, HFt.out _ hm, hm, hp.2⟩))
        clear hlt
        refine HC.out.mono ?_
        rintro e w3 ⟨rfl, V, ⟨hm, h5⟩, hbk, rfl⟩
        have hM : Mod (foot (w.heap.size + 1) ev iv av) w2 (V.setCell ⟨w2.heap.size, 0, none⟩ (.bool true)) := ((((Mod.refl _ w2).alloc _).trans hm fun _ _ g => .inl g).setCell _ (.inr (Nat.le_refl _)) _)
        have HB3 := Lib.hid (hM.below HA.out.below HA.out.below.size (fun k _ hk => HA.out.ft k hk)).drew
        have hres := (hM.block _ (lt_of_block HA.out.res) (HA.out.r.not_foot HA.out.res (by decide))).trans HA.out.res
        have hptr := (hM.block _ (lt_of_block HA.out.ptr) (HA.out.r.not_foot HA.out.ptr (by decide))).trans HA.out.ptr
        have hzr := lt_of_block HA.out.r.blk
        have h5' := (World.cell?_of_block (w := V) (Below.heap_setCell V ⟨w2.heap.size, 0, none⟩ (.bool true) (w.heap.size + 1) (by simp only; omega))).trans h5
        clear hM HC h5 hm hbk
        generalize V.setCell ⟨w2.heap.size, 0, none⟩ (.bool true) = w3 at *
        obtain ⟨d0, d1, d2, d3, d4⟩ := blk5 (V := w3.drew) (p := zeroA) (s := zeroS) hres
        have HSm := Lib.hid (setCell_zero (V := w3.drew) hres)
        have dn : w3.drew.cell? _ = _ := h5'
        have dp := cell_of_one (w := w3.drew) hptr
        have df : ∀ i, w3.drew.frozen? ⟨w.heap.size, i, none⟩ = false := fun i => by
          show w3.frozen? _ = _
          unfold World.frozen?
          rw [hres]
          simp [scBlk]
        simp only [zeroA, zeroS, str, List.length_nil] at d0 d1 d2 d3 d4
        clear h5' hptr hres
        go_upto_region 7 with fail
        refine wp_region_held (S := fun w' => w' = w3.drew) (by kernel_rfl) ?_
        change wpAnyH _ _ _ _ _ _ _ _ w3.drew
        generalize hwd : w3.drew = wd at *
        refine H_take (i := 0) (v := ?_) rfl (by kernel_rfl) (by kernel_rfl) (by kernel_rfl) (fun _ _ _ h => h) (Or.inl ⟨by rfl, ?_⟩) rfl ?_
        rotate_left
        · intro W hW; obtain rfl := hW; go_simp; try with_reducible rfl
        try simp only [Act.put, List.getElem_toArray, List.getElem_cons_succ, List.getElem_cons_zero, List.setIfInBounds_toArray, List.set_cons_zero, List.set_cons_succ]
        refine H_take (i := 1) (v := ?_) rfl (by kernel_rfl) (by kernel_rfl) (by kernel_rfl) (fun _ _ _ h => h) (Or.inl ⟨by rfl, ?_⟩) rfl ?_
        rotate_left
        · intro W hW; obtain rfl := hW; go_simp; try with_reducible rfl
        try simp only [Act.put, List.getElem_toArray, List.getElem_cons_succ, List.getElem_cons_zero, List.setIfInBounds_toArray, List.set_cons_zero, List.set_cons_succ]
        refine H_take (i := 2) (v := ?_) rfl (by kernel_rfl) (by kernel_rfl) (by kernel_rfl) (fun _ _ _ h => h) (Or.inl ⟨by rfl, ?_⟩) rfl ?_
        rotate_left
        · intro W hW; obtain rfl := hW; go_simp; try with_reducible rfl
        try simp only [Act.put, List.getElem_toArray, List.getElem_cons_succ, List.getElem_cons_zero, List.setIfInBounds_toArray, List.set_cons_zero, List.set_cons_succ]
        refine H_take (i := 3) (v := ?_) rfl (by kernel_rfl) (by kernel_rfl) (by kernel_rfl) (fun _ _ _ h => h) (Or.inl ⟨by rfl, ?_⟩) rfl ?_
        rotate_left
        · intro W hW; obtain rfl := hW; go_simp; try with_reducible rfl
        try simp only [Act.put, List.getElem_toArray, List.getElem_cons_succ, List.getElem_cons_zero, List.setIfInBounds_toArray, List.set_cons_zero, List.set_cons_succ]
        refine H_take (i := 4) (v := ?_) rfl (by kernel_rfl) (by kernel_rfl) (by kernel_rfl) (fun _ _ _ h => h) (Or.inl ⟨by rfl, ?_⟩) rfl ?_
        rotate_left
        · intro W hW; obtain rfl := hW; go_simp; try with_reducible rfl
        try simp only [Act.put, List.getElem_toArray, List.getElem_cons_succ, List.getElem_cons_zero, List.setIfInBounds_toArray, List.set_cons_zero, List.set_cons_succ]
        refine H_take (i := 5) (v := ?_) rfl (by kernel_rfl) (by kernel_rfl) (by kernel_rfl) (fun _ _ _ h => h) (Or.inl ⟨by rfl, ?_⟩) rfl ?_
        rotate_left
        · intro W hW; obtain rfl := hW; go_simp; try with_reducible rfl
        try simp only [Act.put, List.getElem_toArray, List.getElem_cons_succ, List.getElem_cons_zero, List.setIfInBounds_toArray, List.set_cons_zero, List.set_cons_succ]
        refine H_one (i := 6) (by kernel_rfl) rfl (fun K hK => ?_)
        go_simp
        refine hK.out _ _ HSm.out (fun _ => ?_)
        clear hK K
        try simp only [Act.put, List.getElem_toArray, List.getElem_cons_succ, List.getElem_cons_zero, List.setIfInBounds_toArray, List.set_cons_zero, List.set_cons_succ]
        refine H_take (i := 7) (v := ?_) rfl (by kernel_rfl) (by kernel_rfl) (by kernel_rfl) (fun _ _ _ h => h) (Or.inl ⟨by rfl, ?_⟩) HSm.out ?_
        rotate_left
        · intro W hW; obtain rfl := hW; go_simp; try with_reducible rfl
        try simp only [Act.put, List.getElem_toArray, List.getElem_cons_succ, List.getElem_cons_zero, List.setIfInBounds_toArray, List.set_cons_zero, List.set_cons_succ]
        refine H_take (i := 8) (v := ?_) rfl (by kernel_rfl) (by kernel_rfl) (by kernel_rfl) (fun _ _ _ h => h) (Or.inl ⟨by rfl, ?_⟩) HSm.out ?_
        rotate_left
        · intro W hW; obtain rfl := hW; go_simp; try with_reducible rfl
        try simp only [Act.put, List.getElem_toArray, List.getElem_cons_succ, List.getElem_cons_zero, List.setIfInBounds_toArray, List.set_cons_zero, List.set_cons_succ]
        refine wpAnyH_done (by kernel_rfl) ?_ _
        rw [HSm.out]
        have e0 : IntKind.i64.wrap (n + 1) = n + 1 := by rw [IntKind.wrap_i64]; omega
        rw [e0]
        clear e0
        go_wp2_with fail
        exact bodyPost_ret (v := .tuple #[.agg (zeroA.cells zeroS), .int .i64 (n + 1), .int .i64 320]) (by simp [results, Tryz.results15, go_sem, d0, d1, d2, d3, d4, SA.cells, str, zeroA, zeroS]) rfl (HFin.out _ zeroA zeroS _ _ HV.out HB3.out (zero_ScR _))
      | some st =>
        obtain ⟨s', f'⟩ := st
        have HV : Hid (readT t = goL (spl 10 more) s' (n + 1) f') := Lib.hid (by
          rw [← HA.out.go, HSp.out]
          cases hm : spl 10 more with
          | nil => exact absurd hm (spl_ne 10 more)
          | cons a b => show (match lineT s n f x with | none => (zeroS, n + 1, 320) | some st => goL (a :: b) st.1 (n + 1) st.2) = _; rw [hlt])
        have HAc := Lib.hid (lineT_acts hlt)
        have HC := Lib.hid (caught_ok (g := 31) (cap := #[.pointer (some ⟨w.heap.size + 1 + 1, 0, none⟩), .pointer (some ⟨bt, 0, none⟩)]) (w := w2) (Q := fun V => Mod (foot (w.heap.size + 1) ev iv av) (w2.alloc (.cells #[.bool false] 4)) V ∧ ∃ ev' iv' av', Rdr V (w.heap.size + 1) ev' iv' av' s' n f' ∧ ∀ k, foot (w.heap.size + 1) ev' iv' av' k → foot (w.heap.size + 1) ev iv av k ∨ (w2.alloc (.cells #[.bool false] 4)).heap.size ≤ k) (enters_of Tryz.func31 (by kernel_rfl) rfl) (HRd1.out.mono fun e w' ⟨hm, hp⟩ => by
          rw [hlt] at hp
          exact ⟨hp.1, HFt.out _ hm, hm, hp.2⟩))
        clear hlt
        refine HC.out.mono ?_
        rintro e w3 ⟨rfl, V, ⟨hm, ev', iv', av', hr', hfo⟩, hbk, rfl⟩
        have hM : Mod (foot (w.heap.size + 1) ev iv av) w2 (V.setCell ⟨w2.heap.size, 0, none⟩ (.bool false)) := ((((Mod.refl _ w2).alloc _).trans hm fun _ _ g => .inl g).setCell _ (.inr (Nat.le_refl _)) _)
        have hz2 : (w2.alloc (.cells #[.bool false] 4)).heap.size = w2.heap.size + 1 := by simp
        have hR := hr'.keep (F := fun k => k = w2.heap.size) ((Mod.refl (fun k => k = w2.heap.size) V).setCell ⟨w2.heap.size, 0, none⟩ (.inl rfl) (.bool false)) (fun k hk e => by
          rcases hfo k hk with g | g
          · have := HA.out.r.foot_lt _ g; omega
          · omega)
        have hB3 := hM.below HA.out.below HA.out.below.size (fun k _ hk => HA.out.ft k hk)
        have hres := (hM.block _ (lt_of_block HA.out.res) (HA.out.r.not_foot HA.out.res (by decide))).trans HA.out.res
        have hptr := (hM.block _ (lt_of_block HA.out.ptr) (HA.out.r.not_foot HA.out.ptr (by decide))).trans HA.out.ptr
        have hsz := HA.out.below.size
        have HFt' : Hid (∀ k, foot (w.heap.size + 1) ev' iv' av' k → w.heap.size ≤ k) := Lib.hid fun k hk => (hfo k hk).elim (fun g => HA.out.ft k g) (fun g => by omega)
        clear hM HC hr' hfo hm hbk HFt HRd1
        generalize V.setCell ⟨w2.heap.size, 0, none⟩ (.bool false) = w3 at *
        have HNew : Hid (RdLoop w (w3.setCell ⟨w.heap.size + 1, 5, none⟩ (.int .i64 (n + 1))) (w.heap.size + 1) t more ev' iv' av' s' (n + 1) f') := Lib.hid {
          r := hR.set (s' := s') (n' := n + 1) (f' := f') 5 _ rfl rfl rfl rfl
          go := HV.out.symm
          res := (Below.heap_setCell _ _ _ _ (by simp only; omega)).trans hres
          ptr := (Below.heap_setCell _ _ _ _ (by simp only; omega)).trans hptr
          below := hB3.setCell (by simp only; omega) _
          ft := HFt'.out
          n0 := by omega
          nl := by have := HA.out.nl; omega
          fresh := fun e => by omega
          al := by have := HA.out.al; have := HAc.out; omega }
        obtain ⟨c0, c1, c2, c3, c4, c5, c6, cf⟩ := rdr_cells hR.blk
        have dp := cell_of_one hptr
        have e0 : IntKind.i64.wrap (n + 1) = n + 1 := by rw [IntKind.wrap_i64]; omega
        clear hR hB3 hres hptr HV
        go_wp2_with fail
        exact ⟨⟨more, _, _, _, _, _, _, rfl, HNew.out⟩, by show more.toArray.size < rest.toArray.size; simp; omega⟩
theorem read_long {w : World} {t : Tx} (ht : 1048576 < t.length) : Calls Tryz.prog 15 #[str t] w (ReadP w t) := by
  have HFin := Lib.hid fun V (hb : Below w.heap.size w V) => (show ReadP w t (.returned (.tuple #[.agg (zeroA.cells zeroS), .int .i64 0, .int .i64 5])) V from by
    have hv : readT t = (zeroS, 0, 5) := if_pos ht
    exact ⟨hb, zeroA, by rw [hv]; exact zero_ScR _, by rw [hv]⟩)
  generalize ReadP w t = PQ at *
  have hl : (1048576 : Int) < t.length := by omega
  have hnew := heap_alloc_new w (.cells #[.int .u32 0, .slice none 0 0, .string ⟨#[]⟩, .slice none 0 0, .slice none 0 0] 29)
  have HB := Lib.hid ((Below.refl w.heap.size w).alloc (Nat.le_refl _) (.cells #[.int .u32 0, .slice none 0 0, .string ⟨#[]⟩, .slice none 0 0, .slice none 0 0] 29))
  obtain ⟨d0, d1, d2, d3, d4⟩ := blk5 (p := zeroA) (s := zeroS) hnew
  have df : ∀ i, (w.alloc (.cells #[.int .u32 0, .slice none 0 0, .string ⟨#[]⟩, .slice none 0 0, .slice none 0 0] 29)).frozen? ⟨w.heap.size, i, none⟩ = false := fun i => by unfold World.frozen?; rw [hnew]; simp
  simp only [zeroA, zeroS, str, List.length_nil] at d0 d1 d2 d3 d4
  unfold str
  clear ht hnew
  go_enter Tryz.func15, Tryz.ntmps15
  go_wp2_with fail
  exact bodyPost_ret (v := .tuple #[.agg (zeroA.cells zeroS), .int .i64 0, .int .i64 5]) (by simp [results, Tryz.results15, go_sem, d0, d1, d2, d3, d4, SA.cells, str, zeroA, zeroS]) rfl (HFin.out _ HB.out)
theorem readAll {w : World} {t : Tx} (h : Laid w) : Calls Tryz.prog 15 #[str t] w (ReadP w t) := by
  by_cases ht : t.length ≤ 1048576
  · exact read h ht
  · exact read_long (by omega)
end Go.Proofs.YtohlgcdailconaaGreatDoor.Scr
