/-
  The cursor's numbers behind the last byte: a draw by six is not 1 for ever.
-/
import Derived.Test.YtbapamfomfbmmaaDraw
namespace Go.Proofs.Ytbapamfomfbmmaa
open Go.RowKit
set_option linter.unusedSimpArgs false
set_option linter.unusedVariables false

def stepN (p : Nat × Nat) (x : Nat) : Nat := (p.1 * x + p.2) % 9007199254740992
def dbl (p : Nat × Nat) : Nat × Nat := (p.1 * p.1 % 9007199254740992, (p.1 * p.2 + p.2) % 9007199254740992)
theorem mod_in (a c x m : Nat) : (a * (x % m) + c) % m = (a * x + c) % m := by
  rw [Nat.add_mod, Nat.mul_mod, Nat.mod_mod, ← Nat.mul_mod, ← Nat.add_mod]
theorem dbl_gen (a c x m : Nat) : (a * ((a * x + c) % m) + c) % m = (a * a % m * x + (a * c + c) % m) % m := by
  rw [mod_in]
  have e : a * (a * x + c) + c = a * a * x + (a * c + c) := by rw [Nat.mul_add, Nat.mul_assoc, Nat.add_assoc]
  have h1 : (a * a % m * x) % m = (a * a * x) % m := by rw [Nat.mul_mod, Nat.mod_mod, ← Nat.mul_mod]
  rw [e, Nat.add_mod (a * a * x), Nat.add_mod (a * a % m * x), h1, Nat.mod_mod]
theorem stepN_dbl (p : Nat × Nat) (x : Nat) : stepN p (stepN p x) = stepN (dbl p) x := dbl_gen p.1 p.2 x _
def iterF {α : Type} (f : α → α) : Nat → α → α
  | 0, x => x
  | n + 1, x => iterF f n (f x)
theorem iterF_add {α : Type} (f : α → α) (m n : Nat) (x : α) : iterF f (m + n) x = iterF f n (iterF f m x) := by
  induction m generalizing x with
  | zero => rw [Nat.zero_add]; rfl
  | succ m ih =>
    rw [show m + 1 + n = (m + n) + 1 by omega]
    exact ih (f x)
theorem iterF_map {α β : Type} (f : α → α) (g : β → β) (r : α → β) (h : ∀ x, r (f x) = g (r x)) (n : Nat) (x : α) : r (iterF f n x) = iterF g n (r x) := by
  induction n generalizing x with
  | zero => rfl
  | succ n ih =>
    show r (iterF f n (f x)) = iterF g n (g (r x))
    rw [ih (f x), h x]
theorem dstep {f : Nat → Nat} {p q : Nat × Nat} {n m : Nat} (h : ∀ x, iterF f n x = stepN p x) (hm : m = n + n) (e : dbl p = q) : ∀ x, iterF f m x = stepN q x := by
  intro x
  rw [hm, iterF_add, h, h, stepN_dbl, e]
def lcg : Nat → Nat := stepN (5053549999652653, 1543160130404687)
theorem iterF_one {α : Type} (f : α → α) (x : α) : iterF f 1 x = f x := rfl
theorem lcgx (x : Nat) : lcg x = stepN (5053549999652653, 1543160130404687) x := by rw [lcg]
theorem lcg0 (x : Nat) : iterF lcg 1 x = stepN (5053549999652653, 1543160130404687) x := by rw [iterF_one, lcgx]
theorem lcg1 (x : Nat) : iterF lcg 2 x = stepN (8893545856347625, 2513558822350130) x := dstep lcg0 rfl rfl x
theorem lcg2 (x : Nat) : iterF lcg 4 x = stepN (3723923786219025, 6222039650179508) x := dstep lcg1 rfl rfl x
theorem lcg3 (x : Nat) : iterF lcg 8 x = stepN (8402876825156897, 412927761213096) x := dstep lcg2 rfl rfl x
theorem lcg4 (x : Nat) : iterF lcg 16 x = stepN (8494674521800257, 8077273890007632) x := dstep lcg3 rfl rfl x
theorem lcg5 (x : Nat) : iterF lcg 32 x = stepN (2279854088686721, 334940883470496) x := dstep lcg4 rfl rfl x
theorem lcg6 (x : Nat) : iterF lcg 64 x = stepN (1666582322174209, 5999675586797888) x := dstep lcg5 rfl rfl x
theorem lcg7 (x : Nat) : iterF lcg 128 x = stepN (228747937296897, 6001844078510720) x := dstep lcg6 rfl rfl x
theorem lcg8 (x : Nat) : iterF lcg 256 x = stepN (2126514927395841, 5427765555037440) x := dstep lcg7 rfl rfl x
theorem lcg9 (x : Nat) : iterF lcg 512 x = stepN (7541893529782273, 5814478551517696) x := dstep lcg8 rfl rfl x
theorem lcg10 (x : Nat) : iterF lcg 1024 x = stepN (5666581573898241, 209632069686272) x := dstep lcg9 rfl rfl x
theorem lcg11 (x : Nat) : iterF lcg 2048 x = stepN (5095289834381313, 2172052359882752) x := dstep lcg10 rfl rfl x
theorem lcg12 (x : Nat) : iterF lcg 4096 x = stepN (7988256871694337, 3310474618753024) x := dstep lcg11 rfl rfl x
theorem lcg13 (x : Nat) : iterF lcg 8192 x = stepN (6764801299349505, 7371009239851008) x := dstep lcg12 rfl rfl x
theorem lcg14 (x : Nat) : iterF lcg 16384 x = stepN (484980540637185, 2775706211794944) x := dstep lcg13 rfl rfl x
theorem lcg15 (x : Nat) : iterF lcg 32768 x = stepN (4101305772670977, 83331719004160) x := dstep lcg14 rfl rfl x
theorem lcg16 (x : Nat) : iterF lcg 65536 x = stepN (3839491708289025, 2219713640071168) x := dstep lcg15 rfl rfl x
theorem lcg17 (x : Nat) : iterF lcg 131072 x = stepN (8240902577848321, 5896228647337984) x := dstep lcg16 rfl rfl x
theorem lcg18 (x : Nat) : iterF lcg 262144 x = stepN (715083291295745, 8612463508717568) x := dstep lcg17 rfl rfl x
theorem lcg19 (x : Nat) : iterF lcg 524288 x = stepN (1413673908174849, 4504951873601536) x := dstep lcg18 rfl rfl x
theorem lcg20 (x : Nat) : iterF lcg 1048576 x = stepN (2761377118683137, 3165999445573632) x := dstep lcg19 rfl rfl x
theorem lcg21 (x : Nat) : iterF lcg 2097152 x = stepN (5258871446700033, 970780194111488) x := dstep lcg20 rfl rfl x
theorem lcg22 (x : Nat) : iterF lcg 4194304 x = stepN (455012475994113, 7518283364302848) x := dstep lcg21 rfl rfl x
theorem lcg23 (x : Nat) : iterF lcg 8388608 x = stepN (5695099556069377, 1314661613961216) x := dstep lcg22 rfl rfl x
theorem lcg24 (x : Nat) : iterF lcg 16777216 x = stepN (3508899764240385, 1784898297790464) x := dstep lcg23 rfl rfl x
theorem lcg25 (x : Nat) : iterF lcg 33554432 x = stepN (2514199901110273, 192096875053056) x := dstep lcg24 rfl rfl x
theorem lcg26 (x : Nat) : iterF lcg 67108864 x = stepN (5028399802220545, 4887793377476608) x := dstep lcg25 rfl rfl x
theorem lcg27 (x : Nat) : iterF lcg 134217728 x = stepN (1049600349700097, 768387500212224) x := dstep lcg26 rfl rfl x
theorem lcg28 (x : Nat) : iterF lcg 268435456 x = stepN (2099200699400193, 1536775000424448) x := dstep lcg27 rfl rfl x
theorem lcg29 (x : Nat) : iterF lcg 536870912 x = stepN (4198401398800385, 3073550000848896) x := dstep lcg28 rfl rfl x
theorem lcg30 (x : Nat) : iterF lcg 1073741824 x = stepN (8396802797600769, 6147100001697792) x := dstep lcg29 rfl rfl x
theorem lcg31 (x : Nat) : iterF lcg 2147483648 x = stepN (7786406340460545, 3287000748654592) x := dstep lcg30 rfl rfl x
theorem lcg32 (x : Nat) : iterF lcg 4294967296 x = stepN (6565613426180097, 6574001497309184) x := dstep lcg31 rfl rfl x
theorem lcg33 (x : Nat) : iterF lcg 8589934592 x = stepN (4124027597619201, 4140803739877376) x := dstep lcg32 rfl rfl x
theorem lcg34 (x : Nat) : iterF lcg 17179869184 x = stepN (8248055195238401, 8281607479754752) x := dstep lcg33 rfl rfl x
theorem lcg35 (x : Nat) : iterF lcg 34359738368 x = stepN (7488911135735809, 7556015704768512) x := dstep lcg34 rfl rfl x
theorem lcg36 (x : Nat) : iterF lcg 68719476736 x = stepN (5970623016730625, 6104832154796032) x := dstep lcg35 rfl rfl x
theorem lcg37 (x : Nat) : iterF lcg 137438953472 x = stepN (2934046778720257, 3202465054851072) x := dstep lcg36 rfl rfl x
theorem lcg38 (x : Nat) : iterF lcg 274877906944 x = stepN (5868093557440513, 6404930109702144) x := dstep lcg37 rfl rfl x
theorem lcg39 (x : Nat) : iterF lcg 549755813888 x = stepN (2728987860140033, 3802660964663296) x := dstep lcg38 rfl rfl x
theorem lcg40 (x : Nat) : iterF lcg 1099511627776 x = stepN (5457975720280065, 7605321929326592) x := dstep lcg39 rfl rfl x
theorem lcg41 (x : Nat) : iterF lcg 2199023255552 x = stepN (1908752185819137, 6203444603912192) x := dstep lcg40 rfl rfl x
theorem lcg42 (x : Nat) : iterF lcg 4398046511104 x = stepN (3817504371638273, 3399689953083392) x := dstep lcg41 rfl rfl x
theorem lcg43 (x : Nat) : iterF lcg 8796093022208 x = stepN (7635008743276545, 6799379906166784) x := dstep lcg42 rfl rfl x
theorem lcg44 (x : Nat) : iterF lcg 17592186044416 x = stepN (6262818231812097, 4591560557592576) x := dstep lcg43 rfl rfl x
theorem lcg45 (x : Nat) : iterF lcg 35184372088832 x = stepN (3518437208883201, 175921860444160) x := dstep lcg44 rfl rfl x
theorem lcg46 (x : Nat) : iterF lcg 70368744177664 x = stepN (7036874417766401, 351843720888320) x := dstep lcg45 rfl rfl x
theorem lcg47 (x : Nat) : iterF lcg 140737488355328 x = stepN (5066549580791809, 703687441776640) x := dstep lcg46 rfl rfl x
theorem lcg48 (x : Nat) : iterF lcg 281474976710656 x = stepN (1125899906842625, 1407374883553280) x := dstep lcg47 rfl rfl x
theorem lcg49 (x : Nat) : iterF lcg 562949953421312 x = stepN (2251799813685249, 2814749767106560) x := dstep lcg48 rfl rfl x
theorem lcg50 (x : Nat) : iterF lcg 1125899906842624 x = stepN (4503599627370497, 5629499534213120) x := dstep lcg49 rfl rfl x
theorem lcg51 (x : Nat) : iterF lcg 2251799813685248 x = stepN (1, 2251799813685248) x := dstep lcg50 rfl rfl x
theorem lcg52 (x : Nat) : iterF lcg 4503599627370496 x = stepN (1, 4503599627370496) x := dstep lcg51 rfl rfl x
/-- A state's part that the byte shows. -/
def res (h : Int) : Nat := (h % 9007199254740992).toNat
theorem wrap_res (z : Int) : wrap64 z % 9007199254740992 = z % 9007199254740992 := by unfold wrap64; omega
theorem add_res {x y : Int} (h : x % 9007199254740992 = y % 9007199254740992) (c : Int) : (x + c) % 9007199254740992 = (y + c) % 9007199254740992 := by rw [Int.add_emod, h, ← Int.add_emod]
theorem lcg_res (r a c a' c' M : Nat) (ha : a % M = a') (hc : c % M = c') : (((r : Int) * a + c) % M).toNat = (a' * r + c') % M := by
  have e : ((r : Int) * a + c) % M = (((r * a + c) % M : Nat) : Int) := by simp only [Int.natCast_emod, Int.natCast_add, Int.natCast_mul]
  rw [e, Int.toNat_natCast, ← ha, ← hc]
  have h1 : (a % M * r) % M = (r % M * (a % M)) % M := by rw [Nat.mul_mod (a % M) r, Nat.mod_mod, Nat.mul_comm]
  have l : (r * a + c) % M = ((r % M * (a % M)) % M + c % M) % M := by rw [Nat.add_mod, Nat.mul_mod]
  rw [l, Nat.add_mod (a % M * r), h1, Nat.mod_mod c]
theorem in_res (x a c m : Int) : (x % m * a + c) % m = (x * a + c) % m := by rw [Int.add_emod, Int.mul_emod, Int.emod_emod, ← Int.mul_emod, ← Int.add_emod]
theorem res_next (h : Int) : res (nextH h) = lcg (res h) := by
  rw [lcgx]
  unfold res nextH stepN
  rw [wrap_res, add_res (wrap_res _)]
  have e : (h * 6364136223846793005 + 1442695040888963407) % 9007199254740992 = (((h % 9007199254740992).toNat : Int) * (6364136223846793005 : Nat) + (1442695040888963407 : Nat)) % (9007199254740992 : Nat) := by
    rw [Int.toNat_of_nonneg (Int.emod_nonneg _ (by decide))]
    exact (in_res h 6364136223846793005 1442695040888963407 9007199254740992).symm
  rw [e]
  exact lcg_res _ _ _ _ _ _ (by decide) (by decide)
theorem wrap_256 (z : Int) : IntKind.i64.wrap z % 256 = z % 256 := by
  simp only [IntKind.wrap, IntKind.bits, IntKind.signed, Bool.true_and, decide_eq_true_eq, ge_iff_le]
  split <;> omega
theorem raw_res (H : Int) : rawByte H = ((res H / 8589934592 % 256 ^^^ res H / 35184372088832 % 256 : Nat) : Int) := by
  unfold rawByte bits
  have hx : ∀ x : Int, (BitVec.ofInt IntKind.i64.bits x).toNat = (x % 18446744073709551616).toNat := fun x => by rw [BitVec.toNat_ofInt]; rfl
  have h3 : (BitVec.ofInt IntKind.i64.bits (H / 8589934592) ^^^ BitVec.ofInt IntKind.i64.bits (H / 35184372088832)).toNat % 256 = (res H / 8589934592 % 256 ^^^ res H / 35184372088832 % 256) := by
    rw [BitVec.toNat_xor, hx, hx]
    have e := Nat.xor_mod_two_pow (a := ((H / 8589934592) % 18446744073709551616).toNat) (b := ((H / 35184372088832) % 18446744073709551616).toNat) (n := 8)
    rw [show (2 : Nat) ^ 8 = 256 from rfl] at e
    rw [e]
    have e1 : ((H / 8589934592) % 18446744073709551616).toNat % 256 = res H / 8589934592 % 256 := by unfold res; omega
    have e2 : ((H / 35184372088832) % 18446744073709551616).toNat % 256 = res H / 35184372088832 % 256 := by unfold res; omega
    rw [e1, e2]
  show IntKind.i64.wrap ((BitVec.ofInt IntKind.i64.bits (H / 8589934592) ^^^ BitVec.ofInt IntKind.i64.bits (H / 35184372088832)).toNat : Int) % 256 = _
  rw [← h3]
  generalize (BitVec.ofInt IntKind.i64.bits (H / 8589934592) ^^^ BitVec.ofInt IntKind.i64.bits (H / 35184372088832)).toNat = N
  rw [wrap_256]
  omega
theorem xor128 : ∀ y, y < 256 → (y + 128) % 256 = y ^^^ 128 := by decide +kernel
theorem six128 : ∀ z, z < 256 → z % 6 = 1 → (z ^^^ 128) % 6 ≠ 1 := by decide +kernel
theorem byte_turn (r : Nat) (hr : r < 9007199254740992) (h : (r / 8589934592 % 256 ^^^ r / 35184372088832 % 256) % 6 = 1) :
    ((r + 4503599627370496) % 9007199254740992 / 8589934592 % 256 ^^^ (r + 4503599627370496) % 9007199254740992 / 35184372088832 % 256) % 6 ≠ 1 := by
  have e1 : (r + 4503599627370496) % 9007199254740992 / 8589934592 % 256 = r / 8589934592 % 256 := by omega
  have e2 : (r + 4503599627370496) % 9007199254740992 / 35184372088832 % 256 = (r / 35184372088832 % 256 + 128) % 256 := by omega
  rw [e1, e2, xor128 _ (Nat.mod_lt _ (by omega)), ← Nat.xor_assoc]
  refine six128 _ ?_ h
  exact Nat.xor_lt_two_pow (n := 8) (Nat.mod_lt _ (by omega)) (Nat.mod_lt _ (by omega))
/-- The next draw by six is not 1. -/
def good (h : Int) : Bool := decide (rawByte (nextH h) % 6 ≠ 1)
def next2 (h : Int) : Int := nextH (nextH h)
theorem next2_iter (t : Nat) (h : Int) : iterF next2 t h = iterF nextH (t + t) h := by
  induction t generalizing h with
  | zero => rfl
  | succ t ih =>
    rw [show t + 1 + (t + 1) = (t + t) + 1 + 1 by omega]
    exact ih (next2 h)
theorem res_lt (h : Int) : res h < 9007199254740992 := by unfold res; omega
theorem iterF_comm {α : Type} (f : α → α) (n : Nat) (x : α) : f (iterF f n x) = iterF f n (f x) := by
  induction n generalizing x with
  | zero => rfl
  | succ n ih => exact ih (f x)
theorem good_turn (T : Nat) (hT : ∀ x, iterF lcg (T + T) x = stepN (1, 4503599627370496) x) (h : Int) : good h = true ∨ good (iterF next2 T h) = true := by
  by_cases hg : good h = true
  · exact .inl hg
  · right
    have h1 : rawByte (nextH h) % 6 = 1 := by unfold good at hg; simpa using hg
    rw [raw_res] at h1
    have h1' : (res (nextH h) / 8589934592 % 256 ^^^ res (nextH h) / 35184372088832 % 256) % 6 = 1 := by omega
    have h2 := byte_turn _ (res_lt _) h1'
    have e : res (nextH (iterF next2 T h)) = (res (nextH h) + 4503599627370496) % 9007199254740992 := by
      rw [next2_iter, iterF_comm nextH, iterF_map nextH lcg res res_next, hT]
      unfold stepN
      dsimp only
      rw [Nat.one_mul]
    rw [← e] at h2
    have h3 : rawByte (nextH (iterF next2 T h)) % 6 ≠ 1 := by
      rw [raw_res]
      omega
    unfold good
    exact decide_eq_true h3
theorem good_soon (h : Int) : ∃ t, t < 2251799813685249 ∧ (good h = true ∨ good (iterF next2 t h) = true) := by
  obtain ⟨T, hT⟩ : ∃ T, T = 2251799813685248 := ⟨_, rfl⟩
  refine ⟨T, by omega, good_turn T (fun x => ?_) h⟩
  rw [show T + T = 4503599627370496 by omega]
  exact lcg52 x
/-- How many rounds until a draw is not 1. -/
def wait : Nat → Int → Nat
  | 0, _ => 0
  | n + 1, h => if good h = true then 0 else wait n (next2 h) + 1
theorem wait_le (n : Nat) (h : Int) : wait n h ≤ n := by
  induction n generalizing h with
  | zero => exact Nat.le_refl _
  | succ n ih =>
    unfold wait
    split
    · omega
    · have := ih (next2 h); omega
theorem wait_stable (n : Nat) (h : Int) (hl : wait n h < n) : wait (n + 1) h = wait n h := by
  induction n generalizing h with
  | zero => omega
  | succ n ih =>
    unfold wait
    unfold wait at hl
    split
    · rfl
    · rename_i hg
      rw [if_neg hg] at hl
      rw [ih (next2 h) (by omega)]
theorem wait_lt (n t : Nat) (h : Int) (ht : t < n) (hg : good (iterF next2 t h) = true) : wait n h < n := by
  induction n generalizing t h with
  | zero => omega
  | succ n ih =>
    unfold wait
    split
    · omega
    · cases t with
      | zero => rename_i hn; exact absurd hg hn
      | succ t =>
        have := ih t (next2 h) (by omega) hg
        omega
theorem wait_step (n t : Nat) (h : Int) (ht : t < n) (hg : good (iterF next2 t h) = true) (hn : ¬ good h = true) : wait n (next2 h) < wait n h := by
  cases n with
  | zero => omega
  | succ n =>
    cases t with
    | zero => exact absurd hg hn
    | succ t =>
      have h1 := wait_lt n t (next2 h) (by omega) hg
      have h2 := wait_stable n (next2 h) h1
      have h3 : wait (n + 1) h = wait n (next2 h) + 1 := by
        show (if good h = true then 0 else wait n (next2 h) + 1) = _
        rw [if_neg hn]
      omega
theorem wait_all (n : Nat) (hn : ∀ h : Int, ∃ t, t < n ∧ (good h = true ∨ good (iterF next2 t h) = true)) (h : Int) (hb : rawByte (nextH h) % 6 = 1) : wait n (nextH (nextH h)) < wait n h := by
  have hb : ¬ good h = true := by unfold good; simpa using hb
  obtain ⟨t, ht, hg | hg⟩ := hn h
  · exact absurd hg hb
  · exact wait_step n t h ht hg hb
def rounds (h : Int) : Nat := wait 2251799813685249 h
theorem rounds_le (h : Int) : rounds h ≤ 2251799813685249 := wait_le _ _
theorem rounds_step (h : Int) (hn : rawByte (nextH h) % 6 = 1) : rounds (nextH (nextH h)) < rounds h := wait_all _ good_soon h hn
end Go.Proofs.Ytbapamfomfbmmaa
