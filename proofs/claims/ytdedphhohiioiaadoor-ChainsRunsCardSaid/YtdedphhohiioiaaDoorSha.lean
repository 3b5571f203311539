/- SHA-256 on lists of numbers, in the model's own operations. -/
import Derived.Test.YtdedphhohiioiaaDoorRot
namespace Go.Proofs.YtdedphhohiioiaaDoor

def u32s (xs : List Int) : List Value := xs.map (Value.int .u32)
theorem u32s_len (xs : List Int) : (u32s xs).length = xs.length := by simp [u32s]

abbrev U (n : Int) : Prop := 0 ≤ n ∧ n ≤ 4294967295
abbrev B8 (n : Int) : Prop := 0 ≤ n ∧ n ≤ 255

def word (a b c d : Int) : Int := a * 16777216 + b * 65536 + c * 256 + d
def wordAt (bs : List Int) (i : Nat) : Int := word (bs.getD (4 * i) 0) (bs.getD (4 * i + 1) 0) (bs.getD (4 * i + 2) 0) (bs.getD (4 * i + 3) 0)
def words (bs : List Int) (n : Nat) : List Int := (List.range n).map (wordAt bs)

def sg0 (x : Int) : Int := bits .xor .u32 (bits .xor .u32 (rr 128 33554432 x) (rr 262144 16384 x)) (x / 8)
def sg1 (x : Int) : Int := bits .xor .u32 (bits .xor .u32 (rr 131072 32768 x) (rr 524288 8192 x)) (x / 1024)
def nextW (ws : List Int) (i : Nat) : Int :=
  (ws.getD (i - 16) 0 + sg0 (ws.getD (i - 15) 0) + ws.getD (i - 7) 0 + sg1 (ws.getD (i - 2) 0)) % 4294967296
/-- The words of a block, as far as there are 16 + k. -/
def sched (bs : List Int) : Nat → List Int
  | 0 => words bs 16
  | k + 1 => sched bs k ++ [nextW (sched bs k) (16 + k)]

theorem words_len (bs : List Int) (n : Nat) : (words bs n).length = n := by simp [words]
theorem words_succ (bs : List Int) (n : Nat) : words bs (n + 1) = words bs n ++ [wordAt bs n] := by simp [words, List.range_succ]
theorem sched_len (bs : List Int) (k : Nat) : (sched bs k).length = 16 + k := by
  induction k with
  | zero => exact words_len bs 16
  | succ k ih => simp only [sched, List.length_append, ih, List.length_cons, List.length_nil]; omega
theorem byte_at {bs : List Int} (hb : ∀ b ∈ bs, B8 b) (i : Nat) : B8 (bs.getD i 0) := by
  rw [List.getD_eq_getElem?_getD]
  cases h : bs[i]? with
  | none => simp [B8]
  | some v => exact hb v (List.mem_of_getElem? h)
theorem word_range {a b c d : Int} (ha : B8 a) (hb : B8 b) (hc : B8 c) (hd : B8 d) : U (word a b c d) := by
  unfold B8 at *; unfold U word; omega
theorem words_range {bs : List Int} (hb : ∀ b ∈ bs, B8 b) (n : Nat) : ∀ x ∈ words bs n, U x := by
  intro x hx
  obtain ⟨i, _, rfl⟩ := List.mem_map.1 hx
  exact word_range (byte_at hb _) (byte_at hb _) (byte_at hb _) (byte_at hb _)
theorem mod_range (x : Int) : U (x % 4294967296) := by unfold U; omega
theorem sched_range {bs : List Int} (hb : ∀ b ∈ bs, B8 b) (k : Nat) : ∀ x ∈ sched bs k, U x := by
  induction k with
  | zero => exact words_range hb 16
  | succ k ih =>
    intro x hx
    rcases List.mem_append.1 hx with h | h
    · exact ih x h
    · simp only [List.mem_cons, List.not_mem_nil, or_false] at h
      subst h
      exact mod_range _
theorem getD_range {xs : List Int} (h : ∀ x ∈ xs, U x) (i : Nat) : U (xs.getD i 0) := by
  rw [List.getD_eq_getElem?_getD]
  cases hx : xs[i]? with
  | none => simp [U]
  | some v => exact h v (List.mem_of_getElem? hx)

theorem or_word (a b c d : Int) (ha : B8 a) (hb : B8 b) (hc : B8 c) (hd : B8 d) :
    bits .or .u32 (bits .or .u32 (bits .or .u32 (IntKind.u32.wrap (IntKind.u32.wrap a * 16777216)) (IntKind.u32.wrap (IntKind.u32.wrap b * 65536))) (IntKind.u32.wrap (IntKind.u32.wrap c * 256))) (IntKind.u32.wrap d) = word a b c d := by
  have hk : ∀ n : Int, 0 ≤ n → n < 2 ^ 32 → IntKind.u32.wrap n = n := fun n h0 h1 => by rw [IntKind.wrap_u32]; omega
  unfold B8 at *
  rw [hk a (by omega) (by omega), hk b (by omega) (by omega), hk c (by omega) (by omega), hk d (by omega) (by omega)]
  rw [hk (a * 16777216) (by omega) (by omega), hk (b * 65536) (by omega) (by omega), hk (c * 256) (by omega) (by omega)]
  rw [bits_join .u32 32 (by decide) hk 24 (a * 16777216) (b * 65536) (by omega) (by omega) (by omega) (by omega) (by omega) (by omega)]
  rw [bits_join .u32 32 (by decide) hk 16 (a * 16777216 + b * 65536) (c * 256) (by omega) (by omega) (by omega) (by omega) (by omega) (by omega)]
  rw [bits_join .u32 32 (by decide) hk 8 (a * 16777216 + b * 65536 + c * 256) d (by omega) (by omega) (by omega) (by omega) (by omega) (by omega)]
  rfl

/-- A row as far as it is filled; noughts behind. -/
def pad (n : Nat) (xs : List Int) : List Int := xs ++ List.replicate (n - xs.length) 0
theorem pad_len (n : Nat) (xs : List Int) (h : xs.length ≤ n) : (pad n xs).length = n := by simp [pad]; omega
theorem pad_set (n : Nat) (xs : List Int) (v : Int) (h : xs.length < n) : (pad n xs).set xs.length v = pad n (xs ++ [v]) := by
  unfold pad
  rw [List.set_append_right _ _ (Nat.le_refl _), Nat.sub_self, List.length_append, List.length_singleton]
  obtain ⟨k, hk⟩ : ∃ k, n - xs.length = k + 1 := ⟨n - xs.length - 1, by omega⟩
  rw [hk, show n - (xs.length + 1) = k by omega, List.replicate_succ, List.set_cons_zero, List.append_assoc]
  rfl
theorem pad_full (n : Nat) (xs : List Int) (h : xs.length = n) : pad n xs = xs := by simp [pad, h]
theorem pad_getD (n : Nat) (xs : List Int) (i : Nat) (h : i < xs.length) : (pad n xs).getD i 0 = xs.getD i 0 := by
  simp [pad, List.getD_eq_getElem?_getD, List.getElem?_append_left h]

/-- The rounds' constants. -/
def kk : List Int := [1116352408, 1899447441, 3049323471, 3921009573, 961987163, 1508970993, 2453635748, 2870763221, 3624381080, 310598401, 607225278, 1426881987, 1925078388, 2162078206, 2614888103, 3248222580, 3835390401, 4022224774, 264347078, 604807628, 770255983, 1249150122, 1555081692, 1996064986, 2554220882, 2821834349, 2952996808, 3210313671, 3336571891, 3584528711, 113926993, 338241895, 666307205, 773529912, 1294757372, 1396182291, 1695183700, 1986661051, 2177026350, 2456956037, 2730485921, 2820302411, 3259730800, 3345764771, 3516065817, 3600352804, 4094571909, 275423344, 430227734, 506948616, 659060556, 883997877, 958139571, 1322822218, 1537002063, 1747873779, 1955562222, 2024104815, 2227730452, 2361852424, 2428436474, 2756734187, 3204031479, 3329325298]
theorem kk_len : kk.length = 64 := rfl
theorem kk_range : ∀ x ∈ kk, U x := by unfold U; decide

structure St where
  a : Int
  b : Int
  c : Int
  d : Int
  e : Int
  f : Int
  g : Int
  h : Int

def St.list (s : St) : List Int := [s.a, s.b, s.c, s.d, s.e, s.f, s.g, s.h]
def St.ok (s : St) : Prop := U s.a ∧ U s.b ∧ U s.c ∧ U s.d ∧ U s.e ∧ U s.f ∧ U s.g ∧ U s.h

def big1 (e : Int) : Int := bits .xor .u32 (bits .xor .u32 (rr 64 67108864 e) (rr 2048 2097152 e)) (rr 33554432 128 e)
def big0 (a : Int) : Int := bits .xor .u32 (bits .xor .u32 (rr 4 1073741824 a) (rr 8192 524288 a)) (rr 4194304 1024 a)
def chs (e f g : Int) : Int := bits .xor .u32 (bits .and .u32 e f) (bits .and .u32 (bits .xor .u32 (if IntKind.u32.signed = true then -1 else IntKind.u32.max) e) g)
def maj (a b c : Int) : Int := bits .xor .u32 (bits .xor .u32 (bits .and .u32 a b) (bits .and .u32 a c)) (bits .and .u32 b c)
def St.t1 (s : St) (k w : Int) : Int := (s.h + big1 s.e + chs s.e s.f s.g + k + w) % 4294967296
def St.t2 (s : St) : Int := (big0 s.a + maj s.a s.b s.c) % 4294967296
def St.rnd (s : St) (k w : Int) : St := ⟨(s.t1 k w + s.t2) % 4294967296, s.a, s.b, s.c, (s.d + s.t1 k w) % 4294967296, s.e, s.f, s.g⟩
def St.rnds (s : St) (ws : List Int) : Nat → St
  | 0 => s
  | k + 1 => (s.rnds ws k).rnd (kk.getD k 0) (ws.getD k 0)
theorem St.rnd_ok {s : St} (h : s.ok) (k w : Int) : (s.rnd k w).ok := by
  obtain ⟨h1, h2, h3, h4, h5, h6, h7, h8⟩ := h
  exact ⟨mod_range _, h1, h2, h3, mod_range _, h5, h6, h7⟩
theorem St.rnds_ok {s : St} (h : s.ok) (ws : List Int) : ∀ k, (s.rnds ws k).ok
  | 0 => h
  | k + 1 => St.rnd_ok (St.rnds_ok h ws k) _ _
/-- The state behind a block. -/
def St.add (s r : St) : St := ⟨(s.a + r.a) % 4294967296, (s.b + r.b) % 4294967296, (s.c + r.c) % 4294967296, (s.d + r.d) % 4294967296, (s.e + r.e) % 4294967296, (s.f + r.f) % 4294967296, (s.g + r.g) % 4294967296, (s.h + r.h) % 4294967296⟩
theorem St.add_ok (s r : St) : (s.add r).ok := ⟨mod_range _, mod_range _, mod_range _, mod_range _, mod_range _, mod_range _, mod_range _, mod_range _⟩
/-- A block's words. -/
def sch (bs : List Int) : List Int := sched bs 48
def St.comp (s : St) (bs : List Int) : St := s.add (s.rnds (sch bs) 64)

theorem St.list_len (s : St) : s.list.length = 8 := rfl
theorem St.list_ok {s : St} (h : s.ok) : ∀ x ∈ s.list, U x := by
  obtain ⟨h1, h2, h3, h4, h5, h6, h7, h8⟩ := h
  intro x hx
  simp only [St.list, List.mem_cons, List.not_mem_nil, or_false] at hx
  rcases hx with rfl | rfl | rfl | rfl | rfl | rfl | rfl | rfl <;> assumption
theorem St.add_at (s r : St) (j : Nat) (h : j < 8) : (s.add r).list.getD j 0 = (s.list.getD j 0 + r.list.getD j 0) % 4294967296 := by
  have : j = 0 ∨ j = 1 ∨ j = 2 ∨ j = 3 ∨ j = 4 ∨ j = 5 ∨ j = 6 ∨ j = 7 := by omega
  rcases this with rfl | rfl | rfl | rfl | rfl | rfl | rfl | rfl <;> rfl
/-- The first j have been written over. -/
def over (xs ys : List Int) (j : Nat) : List Int := ys.take j ++ xs.drop j
theorem over_len (xs ys : List Int) (j n : Nat) (hx : xs.length = n) (hy : ys.length = n) (hj : j ≤ n) : (over xs ys j).length = n := by simp [over]; omega
theorem over_zero (xs ys : List Int) : over xs ys 0 = xs := by simp [over]
theorem over_all (xs ys : List Int) (n : Nat) (hx : xs.length = n) (hy : ys.length = n) : over xs ys n = ys := by
  simp [over, List.take_of_length_le (show ys.length ≤ n by omega), List.drop_of_length_le (show xs.length ≤ n by omega)]
theorem over_at (xs ys : List Int) (j n : Nat) (_hx : xs.length = n) (hy : ys.length = n) (hj : j < n) : (over xs ys j).getD j 0 = xs.getD j 0 := by
  simp only [over, List.getD_eq_getElem?_getD]
  rw [List.getElem?_append_right (by simp; omega)]
  simp [List.length_take, show min j ys.length = j by omega]
theorem over_set (xs ys : List Int) (j n : Nat) (hx : xs.length = n) (hy : ys.length = n) (hj : j < n) : (over xs ys j).set j (ys.getD j 0) = over xs ys (j + 1) := by
  have ht : (ys.take j).length = j := by simp; omega
  unfold over
  rw [List.set_append_right _ _ (by omega), ht, Nat.sub_self, List.drop_eq_getElem_cons (by omega : j < xs.length), List.set_cons_zero, List.take_succ_eq_append_getElem (by omega : j < ys.length), List.append_assoc]
  simp [List.getD_eq_getElem?_getD, show j < ys.length by omega]

def St.init : St := ⟨1779033703, 3144134277, 1013904242, 2773480762, 1359893119, 2600822924, 528734635, 1541459225⟩
theorem St.init_ok : St.init.ok := by unfold St.ok U St.init; decide
/-- Behind so many blocks. -/
def stN (m : List Int) : Nat → St
  | 0 => St.init
  | k + 1 => (stN m k).comp ((m.drop (64 * k)).take 64)
theorem stN_ok (m : List Int) (k : Nat) : (stN m k).ok := by
  cases k with
  | zero => exact St.init_ok
  | succ k => exact St.add_ok _ _
theorem stN_append (m l : List Int) : ∀ k, 64 * k ≤ m.length → stN (m ++ l) k = stN m k
  | 0, _ => rfl
  | k + 1, h => by
    rw [stN, stN, stN_append m l k (by omega)]
    congr 1
    rw [List.drop_append_of_le_length (by omega), List.take_append_of_le_length (by simp; omega)]

def u8s_ok (m : List Int) : Prop := ∀ b ∈ m, B8 b
theorem u8s_ok.drop {m : List Int} (h : u8s_ok m) (k : Nat) : u8s_ok (m.drop k) := fun b hb => h b (List.mem_of_mem_drop hb)
theorem u8s_ok.take {m : List Int} (h : u8s_ok m) (k : Nat) : u8s_ok (m.take k) := fun b hb => h b (List.mem_of_mem_take hb)
theorem u8s_ok.append {m l : List Int} (h : u8s_ok m) (k : u8s_ok l) : u8s_ok (m ++ l) := fun b hb => by
  rcases List.mem_append.1 hb with hb | hb
  · exact h b hb
  · exact k b hb

/-! The padding, and the sum. -/
def zc (n : Nat) : Nat := (119 - n % 64) % 64
def be8 (n : Nat) : List Int := [((n : Int) * 8) / 72057594037927936 % 256, ((n : Int) * 8) / 281474976710656 % 256, ((n : Int) * 8) / 1099511627776 % 256, ((n : Int) * 8) / 4294967296 % 256,
  ((n : Int) * 8) / 16777216 % 256, ((n : Int) * 8) / 65536 % 256, ((n : Int) * 8) / 256 % 256, ((n : Int) * 8) % 256]
def padOf (n : Nat) : List Int := [128] ++ List.replicate (zc n) 0 ++ be8 n
def shaP (m : List Int) : List Int := m ++ padOf m.length
theorem be8_len (n : Nat) : (be8 n).length = 8 := rfl
theorem padOf_len (n : Nat) : (padOf n).length = zc n + 9 := by simp [padOf, be8_len]
theorem shaP_len (m : List Int) : (shaP m).length = m.length + zc m.length + 9 := by simp only [shaP, List.length_append, padOf_len]; omega
theorem shaP_mod (m : List Int) : (shaP m).length % 64 = 0 := by rw [shaP_len]; unfold zc; omega
theorem be8_ok (n : Nat) : u8s_ok (be8 n) := by
  intro b hb
  simp only [be8, List.mem_cons, List.not_mem_nil, or_false] at hb
  unfold B8
  omega
theorem padOf_ok (n : Nat) : u8s_ok (padOf n) := by
  refine u8s_ok.append (u8s_ok.append ?_ ?_) (be8_ok n)
  · intro b hb; simp at hb; subst hb; decide
  · intro b hb; obtain ⟨_, rfl⟩ := List.mem_replicate.1 hb; decide
theorem shaP_ok {m : List Int} (h : u8s_ok m) : u8s_ok (shaP m) := h.append (padOf_ok _)
theorem zc_at (n z : Nat) (h : z ≤ zc n) : ((n + 1 + z) % 64 = 56) ↔ z = zc n := by unfold zc at *; omega

def outAt (s : St) (i : Nat) : Int := (s.list.getD (i / 4) 0) / (if i % 4 = 0 then 16777216 else if i % 4 = 1 then 65536 else if i % 4 = 2 then 256 else 1) % 256
def outB (s : St) (n : Nat) : List Int := (List.range n).map (outAt s)
theorem outB_len (s : St) (n : Nat) : (outB s n).length = n := by simp [outB]
theorem outB_succ (s : St) (n : Nat) : outB s (n + 1) = outB s n ++ [outAt s n] := by simp [outB, List.range_succ]
theorem outB_ok (s : St) (n : Nat) : u8s_ok (outB s n) := by
  intro b hb
  obtain ⟨i, _, rfl⟩ := List.mem_map.1 hb
  unfold B8 outAt
  omega
def sha (m : List Int) : List Int := outB (stN (shaP m) ((shaP m).length / 64)) 32
theorem sha_len (m : List Int) : (sha m).length = 32 := outB_len _ _
theorem sha_ok (m : List Int) : u8s_ok (sha m) := outB_ok _ _
end Go.Proofs.YtdedphhohiioiaaDoor
