/- Memory, plainly: bytes by rising addresses, none of 0. -/
namespace Go.Mem

abbrev Cells := List (Int × Int)

/-- A byte. -/
def getL : Cells → Int → Int
  | [], _ => 0
  | p :: r, x => if p.1 = x then p.2 else getL r x

/-- The cells with another byte, as the loop goes. -/
def putG (a b : Int) : Bool → Cells → Cells
  | d, [] => if d then [] else [(a, b)]
  | d, p :: r =>
    if d = false ∧ a < p.1 then (a, b) :: (if p.1 = a then putG a b true r else p :: putG a b true r)
    else if p.1 = a then putG a b d r else p :: putG a b d r

def putL (c : Cells) (a b : Int) : Cells := putG a b (b == 0) c

/-- Rising, none of 0. -/
structure Canon (c : Cells) : Prop where
  up : c.Pairwise (fun p q => p.1 < q.1)
  nz : ∀ p ∈ c, p.2 ≠ 0

theorem canon_nil : Canon [] := ⟨List.Pairwise.nil, by simp⟩

theorem Canon.tail {p : Int × Int} {c : Cells} (h : Canon (p :: c)) : Canon c := ⟨(List.pairwise_cons.1 h.up).2, fun q hq => h.nz q (by simp [hq])⟩
theorem Canon.head {p : Int × Int} {c : Cells} (h : Canon (p :: c)) : ∀ q ∈ c, p.1 < q.1 := (List.pairwise_cons.1 h.up).1

/-- Where all addresses are beyond one, it has no byte. -/
theorem getL_none {c : Cells} {x : Int} (h : ∀ q ∈ c, q.1 ≠ x) : getL c x = 0 := by
  induction c with
  | nil => rfl
  | cons p r ih => rw [getL, if_neg (h p (by simp)), ih (fun q hq => h q (by simp [hq]))]

/-- All that is laid already: what is there but for the address. -/
theorem putG_true (a b : Int) : ∀ c : Cells, putG a b true c = c.filter (fun p => !(p.1 == a))
  | [] => rfl
  | p :: r => by
    unfold putG
    rw [if_neg (by simp), putG_true a b r]
    by_cases h : p.1 = a
    · rw [if_pos h]; simp [h]
    · rw [if_neg h]; simp [h]

theorem putG_get (a b : Int) : ∀ (d : Bool) (c : Cells), (d = true → b = 0) → ∀ x, getL (putG a b d c) x = if x = a then b else getL c x
  | d, [], hd, x => by
    unfold putG
    cases d
    · by_cases h : x = a
      · subst h; simp [getL]
      · have : ¬ a = x := fun e => h e.symm
        simp [getL, h, this]
    · simp [getL, hd rfl]
  | d, p :: r, hd, x => by
    have lay : ∀ x, getL (r.filter (fun p => !(p.1 == a))) x = if x = a then 0 else getL r x := by
      intro x
      induction r with
      | nil => simp [getL]
      | cons q s ih =>
        have ih := ih
        by_cases h : q.1 = a
        · simp only [List.filter_cons, h, beq_self_eq_true, Bool.not_true, Bool.false_eq_true, if_false]
          rw [ih, getL]
          by_cases hx : x = a
          · simp [hx]
          · have : ¬ q.1 = x := by rw [h]; exact fun e => hx e.symm
            simp [hx, this]
        · have hq : (!(q.1 == a)) = true := by simp [h]
          simp only [List.filter_cons, hq, if_true, getL]
          rw [ih]
          by_cases hx : x = a
          · simp [hx, h]
          · simp [hx]
    unfold putG
    split
    · rename_i hc
      have pa : ¬ p.1 = a := by omega
      rw [if_neg pa, putG_true]
      simp only [getL]
      by_cases hx : x = a
      · subst hx; simp
      · have : ¬ a = x := fun e => hx e.symm
        rw [if_neg this, if_neg hx, lay, if_neg hx]
    · split
      · rename_i hc hp
        rw [putG_get a b d r hd x]
        by_cases hx : x = a
        · simp [hx]
        · have : ¬ p.1 = x := by rw [hp]; exact fun e => hx e.symm
          simp [hx, getL, this]
      · rename_i hc hp
        simp only [getL]
        rw [putG_get a b d r hd x]
        by_cases hx : x = a
        · simp [hx, hp]
        · simp [hx]

theorem getL_put (c : Cells) (a b x : Int) : getL (putL c a b) x = if x = a then b else getL c x :=
  putG_get a b (b == 0) c (by intro h; simpa using h) x

theorem putG_mem {a b : Int} : ∀ (d : Bool) (c : Cells) (q : Int × Int), q ∈ putG a b d c → q ∈ c ∨ (q = (a, b) ∧ d = false)
  | d, [], q, h => by
    unfold putG at h
    cases d
    · simp at h; exact .inr ⟨h, rfl⟩
    · simp at h
  | d, p :: r, q, h => by
    unfold putG at h
    split at h
    · rename_i hc
      rcases List.mem_cons.1 h with h | h
      · exact .inr ⟨h, hc.1⟩
      · split at h
        · rw [putG_true] at h; exact .inl (List.mem_cons_of_mem _ (List.mem_filter.1 h).1)
        · rcases List.mem_cons.1 h with h | h
          · exact .inl (by simp [h])
          · rw [putG_true] at h; exact .inl (List.mem_cons_of_mem _ (List.mem_filter.1 h).1)
    · split at h
      · rcases putG_mem d r q h with h | h
        · exact .inl (List.mem_cons_of_mem _ h)
        · exact .inr h
      · rcases List.mem_cons.1 h with h | h
        · exact .inl (by simp [h])
        · rcases putG_mem d r q h with h | h
          · exact .inl (List.mem_cons_of_mem _ h)
          · exact .inr h

theorem putG_up {a b : Int} : ∀ (d : Bool) (c : Cells), c.Pairwise (fun p q => p.1 < q.1) → (putG a b d c).Pairwise (fun p q => p.1 < q.1)
  | d, [], _ => by
    unfold putG
    cases d <;> simp
  | d, p :: r, h => by
    obtain ⟨h1, h2⟩ := List.pairwise_cons.1 h
    unfold putG
    split
    · rename_i hc
      have pa : ¬ p.1 = a := by omega
      rw [if_neg pa, putG_true]
      refine List.pairwise_cons.2 ⟨?_, List.pairwise_cons.2 ⟨?_, h2.filter _⟩⟩
      · intro q hq
        rcases List.mem_cons.1 hq with rfl | hq
        · exact hc.2
        · have := h1 q (List.mem_filter.1 hq).1
          show a < q.1
          omega
      · intro q hq; exact h1 q (List.mem_filter.1 hq).1
    · split
      · exact putG_up d r h2
      · rename_i hc hp
        refine List.pairwise_cons.2 ⟨?_, putG_up d r h2⟩
        intro q hq
        rcases putG_mem d r q hq with hq | ⟨rfl, hd⟩
        · exact h1 q hq
        · show p.1 < a
          have : ¬ a < p.1 := fun hlt => hc ⟨hd, hlt⟩
          omega

theorem canon_put {c : Cells} (h : Canon c) (a b : Int) : Canon (putL c a b) := by
  refine ⟨putG_up _ _ h.up, ?_⟩
  intro q hq
  rcases putG_mem _ _ _ hq with hq | ⟨rfl, hd⟩
  · exact h.nz q hq
  · simpa using hd

/-- Bytes tell the cells. -/
theorem mem_iff {c : Cells} (h : Canon c) (x y : Int) : (x, y) ∈ c ↔ getL c x = y ∧ y ≠ 0 := by
  induction c with
  | nil => simp [getL]; intro e; exact e.symm
  | cons p r ih =>
    have hr := ih h.tail
    rw [getL]
    by_cases e : p.1 = x
    · rw [if_pos e]
      constructor
      · intro hm
        rcases List.mem_cons.1 hm with hm | hm
        · have := h.nz (x, y) (by simp [hm])
          exact ⟨by rw [← hm], this⟩
        · have := h.head _ hm
          simp at this; omega
      · rintro ⟨rfl, hy⟩
        have : (x, p.2) = p := by rw [← e]
        simp [this]
    · rw [if_neg e, List.mem_cons]
      constructor
      · rintro (hm | hm)
        · exact (e (by rw [← hm])).elim
        · exact hr.1 hm
      · intro hm; exact .inr (hr.2 hm)

theorem canon_ext : ∀ {c d : Cells}, Canon c → Canon d → (∀ p, p ∈ c ↔ p ∈ d) → c = d
  | [], [], _, _, _ => rfl
  | [], q :: s, _, _, h => by have := (h q).2 (by simp); simp at this
  | p :: r, [], _, _, h => by have := (h p).1 (by simp); simp at this
  | p :: r, q :: s, h1, h2, h => by
    have e : p = q := by
      rcases List.mem_cons.1 ((h p).1 (by simp)) with e | hp
      · exact e
      · rcases List.mem_cons.1 ((h q).2 (by simp)) with e | hq
        · exact e.symm
        · have a := h1.head _ hq
          have b := h2.head _ hp
          omega
    subst e
    rw [canon_ext h1.tail h2.tail (fun x => ⟨fun hx => by
      rcases List.mem_cons.1 ((h x).1 (by simp [hx])) with e | hx'
      · have := h1.head x hx; rw [e] at this; omega
      · exact hx', fun hx => by
      rcases List.mem_cons.1 ((h x).2 (by simp [hx])) with e | hx'
      · have := h2.head x hx; rw [e] at this; omega
      · exact hx'⟩)]

theorem get_ext {c d : Cells} (hc : Canon c) (hd : Canon d) (h : ∀ x, getL c x = getL d x) : c = d :=
  canon_ext hc hd fun p => by
    obtain ⟨x, y⟩ := p
    rw [mem_iff hc, mem_iff hd, h]

/-- By rising addresses; of one address the last counts. -/
def newL (l : Cells) : Cells := l.foldl (fun c p => putL c p.1 p.2) []

theorem canon_fold : ∀ (l c : Cells), Canon c → Canon (l.foldl (fun c p => putL c p.1 p.2) c)
  | [], _, h => h
  | p :: l, _, h => canon_fold l _ (canon_put h p.1 p.2)

theorem canon_new (l : Cells) : Canon (newL l) := canon_fold l [] canon_nil

theorem get_fold : ∀ (l c : Cells), Canon l → (∀ p ∈ l, getL c p.1 = 0) → ∀ x : Int, getL (l.foldl (fun c p => putL c p.1 p.2) c) x = if getL l x = 0 then getL c x else getL l x
  | [], _, _, _, x => by simp [getL]
  | p :: l, c, h, hz, x => by
    have hp := h.nz p (by simp)
    rw [List.foldl_cons, get_fold l _ h.tail]
    · rw [getL_put, getL]
      have hn : getL l p.1 = 0 := getL_none (fun q hq => by have := h.head q hq; omega)
      by_cases e : x = p.1
      · subst e; rw [hn]; simp [hp]
      · have e' : ¬ p.1 = x := fun k => e k.symm
        simp [e, e']
    · intro q hq
      rw [getL_put, if_neg (by have := h.head q hq; omega)]
      exact hz q (by simp [hq])

/-- Cells that are such make themselves. -/
theorem new_self {c : Cells} (h : Canon c) : newL c = c := by
  refine get_ext (canon_new c) h fun x => ?_
  rw [newL, get_fold c [] h (by intro p _; rfl)]
  by_cases e : getL c x = 0
  · rw [if_pos e, e]; rfl
  · rw [if_neg e]

end Go.Mem

namespace Go.Mem

/-- An address of 32 bits. -/
def w32 (n : Int) : Int := n % 4294967296

/-- A number's bytes. -/
def byteOf (v : Int) : Nat → Int
  | 0 => v % 256
  | i + 1 => byteOf (v / 256) i

/-- May so many bytes be asked? -/
def sizeB (n : Int) : Bool := n == 1 || n == 2 || n == 4

/-- So many bytes from an address on, the last one first. -/
def loadN (c : Cells) (a : Int) : Nat → Int
  | 0 => 0
  | n + 1 => getL c (w32 a) + 256 * loadN c (a + 1) n

def loadL (c : Cells) (a n : Int) : Int := if sizeB n then loadN c a n.toNat else 0

def storeN (c : Cells) (a v : Int) : Nat → Cells
  | 0 => c
  | n + 1 => storeN (putL c (w32 a) (v % 256)) (a + 1) (v / 256) n

def storeL (c : Cells) (a n v : Int) : Cells := if sizeB n then storeN c a v n.toNat else c

theorem canon_storeN : ∀ (n : Nat) (c : Cells) (a v : Int), Canon c → Canon (storeN c a v n)
  | 0, _, _, _, h => h
  | n + 1, _, a, v, h => canon_storeN n _ (a + 1) (v / 256) (canon_put h _ _)

theorem canon_store {c : Cells} (h : Canon c) (a n v : Int) : Canon (storeL c a n v) := by
  unfold storeL
  split
  · exact canon_storeN _ _ _ _ h
  · exact h

theorem w32_eq {a b : Int} : w32 a = w32 b ↔ (a - b) % 4294967296 = 0 := by unfold w32; omega

/-- A byte behind a store. -/
theorem get_storeN : ∀ (n : Nat) (c : Cells) (a v x : Int), n ≤ 4 → 0 ≤ x → x < 4294967296 →
    getL (storeN c a v n) x = if (x - a) % 4294967296 < n then byteOf v ((x - a) % 4294967296).toNat else getL c x
  | 0, c, a, v, x, _, _, _ => by
    have : ¬ ((x - a) % 4294967296 < ((0 : Nat) : Int)) := by omega
    rw [if_neg this]; rfl
  | n + 1, c, a, v, x, hn, h0, h1 => by
    rw [storeN, get_storeN n _ _ _ _ (by omega) h0 h1, getL_put]
    by_cases e : x = w32 a
    · have ez : (x - a) % 4294967296 = 0 := by subst e; unfold w32; omega
      have e1 : (x - (a + 1)) % 4294967296 = 4294967295 := by omega
      rw [e1, if_neg (by omega), if_pos e, ez, if_pos (by omega)]
      rfl
    · have ez : (x - a) % 4294967296 ≠ 0 := by
        intro h; apply e; unfold w32; omega
      have e1 : (x - (a + 1)) % 4294967296 = (x - a) % 4294967296 - 1 := by omega
      rw [e1, if_neg e]
      by_cases hlt : (x - a) % 4294967296 < ((n + 1 : Nat) : Int)
      · rw [if_pos hlt, if_pos (by omega)]
        have : ((x - a) % 4294967296).toNat = ((x - a) % 4294967296 - 1).toNat + 1 := by omega
        rw [this, byteOf]
      · rw [if_neg hlt, if_neg (by omega)]

/-- What is loaded of bytes that are a number's. -/
theorem loadN_bytes : ∀ (n : Nat) (c : Cells) (a v : Int), (∀ i : Nat, i < n → getL c (w32 (a + i)) = byteOf v i) → loadN c a n = v % 256 ^ n
  | 0, _, _, v, _ => by rw [loadN]; simp
  | n + 1, c, a, v, h => by
    have h0 := h 0 (by omega)
    rw [loadN, loadN_bytes n c (a + 1) (v / 256) (fun i hi => by
      have := h (i + 1) (by omega)
      rw [byteOf] at this
      rw [← this]
      congr 2
      push_cast
      omega)]
    have e : w32 a = w32 (a + ((0 : Nat) : Int)) := by simp
    rw [e, h0, byteOf, Int.pow_succ]
    have k : v % (256 ^ n * 256) = v % 256 + 256 * (v / 256 % 256 ^ n) := by
      rw [Int.mul_comm (256 ^ n)]
      have p : (0 : Int) < 256 ^ n := Int.pow_pos (by omega)
      rw [Int.emod_def v (256 * 256 ^ n), Int.emod_def (v / 256) (256 ^ n), ← Int.ediv_ediv_of_nonneg (by omega)]
      have d := Int.mul_ediv_add_emod v 256
      generalize v / 256 / 256 ^ n = q
      rw [Int.mul_sub, Int.mul_assoc]
      omega
    rw [k]

theorem load_store {c : Cells} (a n v : Int) (hn : sizeB n = true) : loadL (storeL c a n v) a n = v % 256 ^ n.toNat := by
  unfold loadL storeL
  rw [hn, if_pos rfl, if_pos rfl]
  have h4 : n.toNat ≤ 4 := by unfold sizeB at hn; simp at hn; omega
  refine loadN_bytes _ _ _ _ fun i hi => ?_
  have r : 0 ≤ w32 (a + i) ∧ w32 (a + i) < 4294967296 := by unfold w32; omega
  rw [get_storeN _ _ _ _ _ h4 r.1 r.2]
  have e : (w32 (a + i) - a) % 4294967296 = i := by unfold w32; omega
  rw [e, if_pos (by omega)]
  simp

theorem load_other {c : Cells} (a n v x : Int) (hn : sizeB n = true) (h0 : 0 ≤ x) (h1 : x < 4294967296) (h : ¬ (x - a) % 4294967296 < n) : getL (storeL c a n v) x = getL c x := by
  unfold storeL
  rw [hn, if_pos rfl]
  have h4 : n.toNat ≤ 4 := by unfold sizeB at hn; simp at hn; omega
  have h5 : 0 ≤ n := by unfold sizeB at hn; simp at hn; omega
  rw [get_storeN _ _ _ _ _ h4 h0 h1, if_neg (by omega)]

theorem store_halves (c : Cells) (a v : Int) : storeN c a v 4 = storeN (storeN c a (v % 65536) 2) (a + 2) (v / 65536) 2 := by
  simp only [storeN]
  have e1 : v % 65536 % 256 = v % 256 := by omega
  have e2 : v % 65536 / 256 % 256 = v / 256 % 256 := by omega
  have e3 : v / 256 / 256 % 256 = v / 65536 % 256 := by omega
  have e4 : v / 256 / 256 / 256 % 256 = v / 65536 / 256 % 256 := by omega
  have a2 : a + 1 + 1 = a + 2 := by omega
  rw [e1, e2, e3, e4, a2]

end Go.Mem

namespace Go.Mem

theorem getL_ne {c : Cells} {p : Int × Int} (h : Canon c) (hp : p ∈ c) : getL c p.1 = p.2 := ((mem_iff h p.1 p.2).1 hp).1

theorem getL_mem {c : Cells} {x : Int} (h : getL c x ≠ 0) : (x, getL c x) ∈ c := by
  induction c with
  | nil => exact absurd rfl h
  | cons p r ih =>
    rw [getL] at h ⊢
    by_cases e : p.1 = x
    · rw [if_pos e]; exact List.mem_cons.2 (.inl (by rw [← e]))
    · rw [if_neg e] at h ⊢; exact List.mem_cons_of_mem _ (ih h)

/-- How many cells there are with an address struck. -/
theorem length_true (a b : Int) : ∀ c : Cells, Canon c → (putG a b true c).length + (if getL c a = 0 then 0 else 1) = c.length
  | [], _ => by simp [putG, getL]
  | p :: r, h => by
    have ih := length_true a b r h.tail
    have hp := h.nz p (by simp)
    unfold putG
    rw [if_neg (by simp), getL]
    by_cases e : p.1 = a
    · rw [if_pos e, if_pos e, if_neg hp]
      have hn : getL r a = 0 := getL_none (fun q hq => by have := h.head q hq; omega)
      rw [hn, if_pos rfl] at ih
      simp only [List.length_cons]
      omega
    · rw [if_neg e, if_neg e]
      simp only [List.length_cons]
      omega

/-- How many there are with a byte set. -/
theorem length_false (a b : Int) (hb : b ≠ 0) : ∀ c : Cells, Canon c → (putG a b false c).length = c.length + (if getL c a = 0 then 1 else 0)
  | [], _ => by simp [putG, getL]
  | p :: r, h => by
    have hp := h.nz p (by simp)
    unfold putG
    rw [getL]
    by_cases e : p.1 = a
    · rw [if_neg (by omega), if_pos e, if_pos e, if_neg hp]
      have hn : getL r a = 0 := getL_none (fun q hq => by have := h.head q hq; omega)
      have ih := length_false a b hb r h.tail
      rw [hn, if_pos rfl] at ih
      simp only [List.length_cons]
      omega
    · by_cases hlt : a < p.1
      · have hn : getL r a = 0 := getL_none (fun q hq => by have := h.head q hq; omega)
        have ih := length_true a b r h.tail
        rw [hn, if_pos rfl] at ih
        rw [if_pos ⟨rfl, hlt⟩, if_neg e, if_neg e, hn, if_pos rfl]
        simp only [List.length_cons]
        omega
      · have ih := length_false a b hb r h.tail
        rw [if_neg (fun k => hlt k.2), if_neg e, if_neg e]
        simp only [List.length_cons]
        omega

theorem length_del {c : Cells} (h : Canon c) (a : Int) : (putL c a 0).length + (if getL c a = 0 then 0 else 1) = c.length := length_true a 0 c h
theorem length_put {c : Cells} (h : Canon c) (a b : Int) (hb : b ≠ 0) : (putL c a b).length = c.length + (if getL c a = 0 then 1 else 0) := by
  have e : (b == 0) = false := by simpa using hb
  unfold putL
  rw [e]
  exact length_false a b hb c h
theorem length_put_le (c : Cells) (a b : Int) : (putL c a b).length ≤ c.length + 1 := by
  have key : ∀ (d : Bool) (c : Cells), (putG a b d c).length ≤ c.length + (if d then 0 else 1) := by
    intro d c
    induction c generalizing d with
    | nil => cases d <;> simp [putG]
    | cons p r ih =>
      unfold putG
      split
      · rename_i hc
        rw [hc.1]
        have := ih true
        split <;> simp at * <;> omega
      · have := ih d
        split <;> cases d <;> simp at * <;> omega
  have := key (b == 0) c
  unfold putL
  split at this <;> omega

/-- All addresses and bytes are in range. -/
def InR (c : Cells) : Prop := ∀ p ∈ c, 0 ≤ p.1 ∧ p.1 < 4294967296 ∧ 0 ≤ p.2 ∧ p.2 < 256

theorem inR_nil : InR [] := fun _ h => by cases h
theorem InR.put {c : Cells} (h : InR c) {a b : Int} (h0 : 0 ≤ a) (h1 : a < 4294967296) (h2 : 0 ≤ b) (h3 : b < 256) : InR (putL c a b) := by
  intro q hq
  rcases putG_mem _ _ _ hq with hq | ⟨rfl, _⟩
  · exact h q hq
  · exact ⟨h0, h1, h2, h3⟩

theorem InR.get {c : Cells} (h : InR c) (x : Int) : 0 ≤ getL c x ∧ getL c x < 256 := by
  by_cases e : getL c x = 0
  · rw [e]; omega
  · have := h _ (getL_mem e); exact ⟨this.2.2.1, this.2.2.2⟩

/-- Rising addresses of 32 bits: not more than there are. -/
theorem length_le_of {c : Cells} : ∀ (lo : Int), lo ≤ 4294967296 → Canon c → (∀ p ∈ c, lo ≤ p.1 ∧ p.1 < 4294967296) → (c.length : Int) ≤ 4294967296 - lo := by
  induction c with
  | nil => intro lo hlo _ _; simp; omega
  | cons p r ih =>
    intro lo hlo hc h
    have hp := h p (by simp)
    have := ih (p.1 + 1) (by omega) hc.tail (fun q hq => ⟨by have := hc.head q hq; omega, (h q (by simp [hq])).2⟩)
    simp only [List.length_cons]
    omega
theorem length_le {c : Cells} (hc : Canon c) (h : InR c) : c.length ≤ 4294967296 := by
  have := length_le_of 0 (by omega) hc (fun p hp => ⟨(h p hp).1, (h p hp).2.1⟩)
  omega

end Go.Mem

namespace Go.Mem

/-- A number of so many bytes, the last one first. -/
theorem loadN_bound (c : Cells) (h : InR c) : ∀ (n : Nat) (a : Int), 0 ≤ loadN c a n ∧ loadN c a n < 256 ^ n
  | 0, a => by simp [loadN]
  | n + 1, a => by
    have ih := loadN_bound c h n (a + 1)
    have g := h.get (w32 a)
    rw [loadN, Int.pow_succ]
    omega

theorem loadL_bound (c : Cells) (h : InR c) (a n : Int) : 0 ≤ loadL c a n ∧ loadL c a n < 4294967296 := by
  unfold loadL
  split
  · rename_i hs
    have hn : n = 1 ∨ n = 2 ∨ n = 4 := by unfold sizeB at hs; simp at hs; omega
    rcases hn with rfl | rfl | rfl
    · have := loadN_bound c h 1 a; simp at this ⊢; omega
    · have := loadN_bound c h 2 a; simp at this ⊢; omega
    · have := loadN_bound c h 4 a; simp at this ⊢; omega
  · omega

theorem inR_storeN : ∀ (n : Nat) (c : Cells) (a v : Int), InR c → InR (storeN c a v n)
  | 0, _, _, _, h => h
  | n + 1, c, a, v, h => inR_storeN n _ (a + 1) (v / 256) (h.put (by unfold w32; omega) (by unfold w32; omega) (by omega) (by omega))

theorem inR_store {c : Cells} (h : InR c) (a n v : Int) : InR (storeL c a n v) := by
  unfold storeL
  split
  · exact inR_storeN _ _ _ _ h
  · exact h

theorem inR_new (l : Cells) (h : InR l) : InR (newL l) := by
  have : ∀ (l c : Cells), InR c → InR l → InR (l.foldl (fun c p => putL c p.1 p.2) c) := by
    intro l
    induction l with
    | nil => intro c hc _; exact hc
    | cons p r ih =>
      intro c hc hl
      have hp := hl p (by simp)
      exact ih _ (hc.put hp.1 hp.2.1 hp.2.2.1 hp.2.2.2) (fun q hq => hl q (by simp [hq]))
  exact this l [] inR_nil h

/-- The store's steps, from the front on. -/
theorem storeN_step (c : Cells) (a v : Int) (n : Nat) : storeN c a v (n + 1) = storeN (putL c (w32 a) (v % 256)) (a + 1) (v / 256) n := rfl

theorem newL_snoc (l : Cells) (p : Int × Int) : newL (l ++ [p]) = putL (newL l) p.1 p.2 := by simp [newL, List.foldl_append]

theorem length_new_le (l : Cells) : (newL l).length ≤ l.length := by
  have : ∀ (l c : Cells), (l.foldl (fun c p => putL c p.1 p.2) c).length ≤ c.length + l.length := by
    intro l
    induction l with
    | nil => intro c; simp
    | cons p r ih =>
      intro c
      have h1 := ih (putL c p.1 p.2)
      have h2 := length_put_le c p.1 p.2
      simp only [List.foldl_cons, List.length_cons]
      omega
  have := this l []
  unfold newL
  simpa using this

theorem length_storeN_le : ∀ (n : Nat) (c : Cells) (a v : Int), (storeN c a v n).length ≤ c.length + n
  | 0, _, _, _ => by simp [storeN]
  | n + 1, c, a, v => by
    have h1 := length_storeN_le n (putL c (w32 a) (v % 256)) (a + 1) (v / 256)
    have h2 := length_put_le c (w32 a) (v % 256)
    rw [storeN]
    omega

theorem length_store_le (c : Cells) (a n v : Int) : (storeL c a n v).length ≤ c.length + 4 := by
  unfold storeL
  split
  · rename_i hs
    have := length_storeN_le n.toNat c a v
    have hn : n = 1 ∨ n = 2 ∨ n = 4 := by unfold sizeB at hs; simp at hs; omega
    omega
  · omega

end Go.Mem

namespace Go.Mem

theorem storeN_mod : ∀ (n : Nat) (c : Cells) (a b v : Int), (a - b) % 4294967296 = 0 → storeN c a v n = storeN c b v n
  | 0, _, _, _, _, _ => rfl
  | n + 1, c, a, b, v, h => by
    rw [storeN, storeN, w32_eq.2 h]
    exact storeN_mod n _ _ _ _ (by omega)

theorem loadN_mod : ∀ (n : Nat) (c : Cells) (a b : Int), (a - b) % 4294967296 = 0 → loadN c a n = loadN c b n
  | 0, _, _, _, _ => rfl
  | n + 1, c, a, b, h => by
    rw [loadN, loadN, w32_eq.2 h, loadN_mod n c (a + 1) (b + 1) (by omega)]

theorem halves_store (c : Cells) (a v : Int) : storeL (storeL c a 2 (v % 65536)) ((a + 2) % 4294967296) 2 (v / 65536) = storeL c a 4 v := by
  show storeN (storeN c a (v % 65536) 2) ((a + 2) % 4294967296) (v / 65536) 2 = storeN c a v 4
  rw [store_halves, storeN_mod 2 _ ((a + 2) % 4294967296) (a + 2) _ (by omega)]

theorem halves_load (c : Cells) (a : Int) : loadL c a 4 = loadL c a 2 + 65536 * loadL c ((a + 2) % 4294967296) 2 := by
  show loadN c a 4 = loadN c a 2 + 65536 * loadN c ((a + 2) % 4294967296) 2
  rw [loadN_mod 2 c ((a + 2) % 4294967296) (a + 2) (by omega)]
  simp only [loadN]
  have e1 : a + 1 + 1 = a + 2 := by omega
  rw [e1]
  omega

theorem load2_bound (c : Cells) (h : InR c) (a : Int) : 0 ≤ loadL c a 2 ∧ loadL c a 2 < 65536 := by
  have := loadN_bound c h 2 a
  simpa [loadL, sizeB] using this

end Go.Mem
