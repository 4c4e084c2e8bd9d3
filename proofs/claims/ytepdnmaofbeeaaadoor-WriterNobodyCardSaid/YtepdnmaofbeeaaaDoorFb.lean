/-
  What the functions compute, part 2: frag, stamp, plan, image, header, pool, segment, the references, writer, the law.
-/
import Derived.Test.YtepdnmaofbeeaaaDoorFa
namespace Go.AM
open Go Go.Proofs Go.IntWalk
set_option autoImplicit false
set_option maxRecDepth 100000

@[go_sem high] theorem clean_b8 (b : UInt8) : (b8 b).clean = true := rfl
theorem bytes_cons (a : UInt8) (l : List UInt8) : bytes (a :: l) = [b8 a] :: bytes l := rfl
theorem bytes_nil : bytes [] = [] := rfl
theorem bytes_append (a b : List UInt8) : bytes a ++ bytes b = bytes (a ++ b) := by simp [bytes]
theorem put2 (n : BitVec 64) : put n 2 = [putB n 0, putB n 1] := rfl
theorem put4 (n : BitVec 64) : put n 4 = [putB n 0, putB n 1, putB n 2, putB n 3] := rfl
theorem put8 (n : BitVec 64) : put n 8 = [putB n 0, putB n 1, putB n 2, putB n 3, putB n 4, putB n 5, putB n 6, putB n 7] := rfl
theorem of64 (n : Nat) (h : n < 2 ^ 64) : IntKind.u64.wrap (n : Int) = ((BitVec.ofNat 64 n).toNat : Int) := by
  rw [u64_in _ (by omega), BitVec.toNat_ofNat]; omega
theorem of64_32 (x : BitVec 32) : IntKind.u64.wrap (x.toNat : Int) = ((x.zeroExtend 64).toNat : Int) := by
  have := x.isLt
  rw [u64_in _ (by omega)]; simp; omega
theorem of64_i (x : Int) : IntKind.u64.wrap x = ((BitVec.ofInt 64 x).toNat : Int) := by
  rw [IntKind.wrap_u64, BitVec.toNat_ofInt]; omega

/-! ### frag.Encode -/
def kindB (k : Int) : UInt8 := UInt8.ofNat k.toNat
theorem kindB_v (k : Int) (h : 0 ≤ k ∧ k < 256) : SV.v (.int .u8 (IntKind.u8.wrap k)) = b8 (kindB k) := by
  rw [b8, kindB, IntKind.wrap_u8]
  congr 2; simp; omega
def encBody (k : Int) (e : BitVec 32) (data : List UInt8) : List UInt8 :=
  [putB (BitVec.ofNat 64 data.length) 0, putB (BitVec.ofNat 64 data.length) 1, kindB k, putB (e.zeroExtend 64) 0, putB (e.zeroExtend 64) 1, putB (e.zeroExtend 64) 2, putB (e.zeroExtend 64) 3] ++ data
def encD (k : Int) (e : BitVec 32) (data : List UInt8) : List UInt8 := put ((crcMask (crcOf (encBody k e data))).zeroExtend 64) 4 ++ encBody k e data
theorem encode_fun (k : Int) (e : BitVec 32) (data : List UInt8) (full : Bool) (hr : fragRight k data.length = true) :
    Fun Tryd.prog GH 42 [.agg [i64 k, w32 e, .fsl 1 (bytes data) full]] [] (fun sv own' => (∃ b, sv = .tup [.fsl 1 (bytes (encD k e data)) b, i64 0]) ∧ own' = []) := by
  refine fun_of_vcQ (D := fun n => match n with | 4 => some (.fl 0 (.fl 1 (.fl 2 (.fl 3 (.fl 4 (.mv 5 [0] (.mv 6 [] (.done) .no) .no)))))) | 6 => some (.fl 0 (.fl 1 (.fl 2 (.fl 3 (.mv 4 [0] (.mv 5 [] (.done) .no) .no))))) | 7 => some (.fl 0 (.fl 1 (.fl 2 (.mv 3 [] (.mv 4 [] (.done) .no) .no)))) | 8 => some (.fl 0 (.fl 1 (.fl 2 (.fl 3 (.mv 4 [1] (.mv 5 [1] (.fl 6 (.mv 7 [1] (.mv 8 [] (.done) .no) .no)) .no) .no))))) | _ => none) Tryd.func42 (rfl : Tryd.f42.body = some _) (by kernel_rfl) (by kernel_rfl) (by simp [Tryd.f42]) (by kernel_rfl) ?_; intro Q hE hQ
  have hr' := hr
  simp only [fragRight, Bool.and_eq_true, decide_eq_true_eq] at hr'
  obtain ⟨⟨hk1, hk2⟩, hdl⟩ := hr'
  simp only [go_sem, seval]
  refine cg_frame (fragRight_fun k e data full) [] rfl trivial rfl ?_
  rintro sv own' ⟨rfl, rfl⟩
  refine ⟨Nat.le_refl _, ?_⟩
  simp only [go_sem, seval, hr, bl, bytes_length]
  rw [of64 data.length (by omega)]
  refine cg_frame (put_fun (BitVec.ofNat 64 data.length) 2) [] rfl trivial rfl ?_
  rintro sv own' ⟨rfl, rfl⟩
  refine ⟨Nat.le_refl _, ?_⟩
  have hk := kindB_v k (by omega)
  simp only [go_sem, seval, put2, bytes_cons, bytes_nil, hk, w32, Nat.mul_one]
  rw [of64_32 e]
  refine cg_frame (put_fun (e.zeroExtend 64) 4) [] rfl trivial rfl ?_
  rintro sv own' ⟨rfl, rfl⟩
  refine ⟨Nat.le_refl _, ?_⟩
  simp only [go_sem, seval, put4, bytes_cons, bytes_nil, hk, w32, Nat.mul_one]
  refine ⟨fun hnil => ?_, fun hne => ?_⟩
  · have hdn : data = [] := by simpa [bytes] using hnil
    subst hdn
    have hF := of_fun (encBody k e []) false (by simp [encBody])
    refine cg_lend (args := [SV.asl 1 1 4 7 false]) (Post := fun sv own' => sv = w32 (crcOf (encBody k e [])) ∧ own' = []) hF ?_
    rintro sv own' ⟨rfl, rfl⟩
    refine ⟨rfl, ?_⟩
    simp only [go_sem, seval]
    refine cg_frame (mask_fun (crcOf (encBody k e []))) [] rfl trivial rfl ?_
    rintro sv own' ⟨rfl, rfl⟩
    refine ⟨Nat.le_refl _, ?_⟩
    simp only [go_sem, seval, w32]
    rw [of64_32]
    refine cg_frame (put_fun ((crcMask (crcOf (encBody k e []))).zeroExtend 64) 4) [] rfl trivial rfl ?_
    rintro sv own' ⟨rfl, rfl⟩
    refine ⟨Nat.le_refl _, ?_⟩
    simp only [go_sem, seval, put4, bytes_cons, bytes_nil, Nat.mul_one, Tryd.results42]
    exact hQ _ _ (.tup [.fsl 1 (bytes (encD k e [])) true, i64 0]) [] (Red.trans (RedV.freezeA (i := 1) rfl rfl) (RedV.drop rfl)) ⟨⟨true, rfl⟩, rfl⟩
  · refine ⟨by rw [bytes_length, mx64_eq]; omega, Nat.le_refl _, ?_⟩
    have hF := of_fun (encBody k e data) false (by simp [encBody]; omega)
    refine cg_lend (Post := fun sv own' => sv = w32 (crcOf (encBody k e data)) ∧ own' = []) ?_ ?_
    · simp only [List.map_cons, List.map_nil]
      rw [lend_sub (i := 2) rfl (by simp; omega)]
      have : (((bytes ([0, 0, 0, 0] ++ encBody k e data)).drop 4).take ((bytes data).length + 7)) = bytes (encBody k e data) := by
        rw [bytes_drop, bytes_take]
        congr 1
        exact List.take_of_length_le (by simp [encBody, bytes_length])
      exact (congrArg (fun r => Fun Tryd.prog GH 69 [.fsl 1 r false] [] (fun sv own' => sv = w32 (crcOf (encBody k e data)) ∧ own' = [])) this).mpr hF
    rintro sv own' ⟨rfl, rfl⟩
    refine ⟨rfl, ?_⟩
    simp only [go_sem, seval]
    refine cg_frame (mask_fun (crcOf (encBody k e data))) [] rfl trivial rfl ?_
    rintro sv own' ⟨rfl, rfl⟩
    refine ⟨Nat.le_refl _, ?_⟩
    simp only [go_sem, seval, w32]
    rw [of64_32]
    refine cg_frame (put_fun ((crcMask (crcOf (encBody k e data))).zeroExtend 64) 4) [] rfl trivial rfl ?_
    rintro sv own' ⟨rfl, rfl⟩
    refine ⟨Nat.le_refl _, ?_⟩
    simp only [go_sem, seval, put4, bytes_cons, bytes_nil, Nat.mul_one, Tryd.results42]
    exact hQ _ _ (.tup [.fsl 1 (bytes (encD k e data)) false, i64 0]) [] (Red.trans (RedV.freeze (i := 2) rfl) (RedV.drop rfl)) ⟨⟨false, rfl⟩, rfl⟩

/-! ### stamp.Seal, plan -/
def sealD (epoch : BitVec 64) (index : Int) (room : List UInt8) : List UInt8 := put epoch 8 ++ put (BitVec.ofInt 64 index) 4 ++ room.take 52 ++ List.replicate (52 - room.length) 0
theorem sealD_length (e : BitVec 64) (i : Int) (r : List UInt8) : (sealD e i r).length = 64 := by
  simp [sealD, put8, put4]; omega
theorem drop12 {α : Type} (a b c d e f g h i j k l : α) (zs : List α) (m : Nat) : List.drop (12 + m) (a :: b :: c :: d :: e :: f :: g :: h :: i :: j :: k :: l :: zs) = List.drop m zs := by
  rw [Nat.add_comm]; rfl
def roomD (room : List UInt8) : List SV := (room.take 52 ++ List.replicate (52 - room.length) 0).map b8
theorem roomD_len (room : List UInt8) : (roomD room).length = 52 := by simp [roomD]; omega
theorem bytes_flat (l : List UInt8) : (bytes l).flatten = l.map b8 := by
  induction l with
  | nil => rfl
  | cons a l ih => rw [bytes_cons, List.flatten_cons, ih]; rfl
theorem room_tail (room : List UInt8) : (bytes (room.take 52)).flatten ++ List.drop (min 52 room.length) [SV.v (.int .u8 0), SV.v (.int .u8 0), SV.v (.int .u8 0), SV.v (.int .u8 0), SV.v (.int .u8 0), SV.v (.int .u8 0), SV.v (.int .u8 0), SV.v (.int .u8 0), SV.v (.int .u8 0), SV.v (.int .u8 0), SV.v (.int .u8 0), SV.v (.int .u8 0), SV.v (.int .u8 0), SV.v (.int .u8 0), SV.v (.int .u8 0), SV.v (.int .u8 0), SV.v (.int .u8 0), SV.v (.int .u8 0), SV.v (.int .u8 0), SV.v (.int .u8 0), SV.v (.int .u8 0), SV.v (.int .u8 0), SV.v (.int .u8 0), SV.v (.int .u8 0), SV.v (.int .u8 0), SV.v (.int .u8 0), SV.v (.int .u8 0), SV.v (.int .u8 0), SV.v (.int .u8 0), SV.v (.int .u8 0), SV.v (.int .u8 0), SV.v (.int .u8 0), SV.v (.int .u8 0), SV.v (.int .u8 0), SV.v (.int .u8 0), SV.v (.int .u8 0), SV.v (.int .u8 0), SV.v (.int .u8 0), SV.v (.int .u8 0), SV.v (.int .u8 0), SV.v (.int .u8 0), SV.v (.int .u8 0), SV.v (.int .u8 0), SV.v (.int .u8 0), SV.v (.int .u8 0), SV.v (.int .u8 0), SV.v (.int .u8 0), SV.v (.int .u8 0), SV.v (.int .u8 0), SV.v (.int .u8 0), SV.v (.int .u8 0), SV.v (.int .u8 0)] = roomD room := by
  have e : ([SV.v (.int .u8 0), SV.v (.int .u8 0), SV.v (.int .u8 0), SV.v (.int .u8 0), SV.v (.int .u8 0), SV.v (.int .u8 0), SV.v (.int .u8 0), SV.v (.int .u8 0), SV.v (.int .u8 0), SV.v (.int .u8 0), SV.v (.int .u8 0), SV.v (.int .u8 0), SV.v (.int .u8 0), SV.v (.int .u8 0), SV.v (.int .u8 0), SV.v (.int .u8 0), SV.v (.int .u8 0), SV.v (.int .u8 0), SV.v (.int .u8 0), SV.v (.int .u8 0), SV.v (.int .u8 0), SV.v (.int .u8 0), SV.v (.int .u8 0), SV.v (.int .u8 0), SV.v (.int .u8 0), SV.v (.int .u8 0), SV.v (.int .u8 0), SV.v (.int .u8 0), SV.v (.int .u8 0), SV.v (.int .u8 0), SV.v (.int .u8 0), SV.v (.int .u8 0), SV.v (.int .u8 0), SV.v (.int .u8 0), SV.v (.int .u8 0), SV.v (.int .u8 0), SV.v (.int .u8 0), SV.v (.int .u8 0), SV.v (.int .u8 0), SV.v (.int .u8 0), SV.v (.int .u8 0), SV.v (.int .u8 0), SV.v (.int .u8 0), SV.v (.int .u8 0), SV.v (.int .u8 0), SV.v (.int .u8 0), SV.v (.int .u8 0), SV.v (.int .u8 0), SV.v (.int .u8 0), SV.v (.int .u8 0), SV.v (.int .u8 0), SV.v (.int .u8 0)] : List SV) = List.replicate 52 (b8 0) := rfl
  rw [e, bytes_flat, List.drop_replicate, roomD, List.map_append, List.map_replicate]
  congr 2; omega
theorem roomD_take (room : List UInt8) : (roomD room).take 52 = roomD room := List.take_of_length_le (by rw [roomD_len]; exact Nat.le_refl _)
theorem sealD_row (e : BitVec 64) (i : Int) (room : List UInt8) : secRow (sealD e i room) = b8 (putB e 0) :: b8 (putB e 1) :: b8 (putB e 2) :: b8 (putB e 3) :: b8 (putB e 4) :: b8 (putB e 5) :: b8 (putB e 6) :: b8 (putB e 7) ::
    b8 (putB (BitVec.ofInt 64 i) 0) :: b8 (putB (BitVec.ofInt 64 i) 1) :: b8 (putB (BitVec.ofInt 64 i) 2) :: b8 (putB (BitVec.ofInt 64 i) 3) :: roomD room := by
  simp [secRow, sealD, put8, put4, roomD]
theorem seal_fun (e : BitVec 64) (i : Int) (room : List UInt8) (full : Bool) :
    Fun Tryd.prog GH 70 [w64 e, i64 i, .fsl 1 (bytes room) full] [] (fun sv own' => sv = .agg (secRow (sealD e i room)) ∧ own' = []) := by
  refine fun_of_vcQ (D := fun n => match n with | 2 => some (.fl 0 (.fl 1 (.mv 2 [0] (.mv 3 [] (.done) .no) .no))) | 3 => some (.fl 0 (.fl 1 (.fl 2 (.mv 3 [0] (.mv 4 [] (.done) .no) .no)))) | _ => none) Tryd.func70 (rfl : Tryd.f70.body = some _) (by kernel_rfl) (by kernel_rfl) (by simp [Tryd.f70]) (by kernel_rfl) ?_; intro Q hE hQ
  simp only [go_sem, seval, w64]
  refine cg_frame (put_fun e 8) [] rfl trivial rfl ?_
  rintro sv own' ⟨rfl, rfl⟩
  refine ⟨Nat.le_refl _, ?_⟩
  have m1 : min 8 64 = 8 := rfl
  have m2 : min 64 8 = 8 := rfl
  have m3 : min 4 56 = 4 := rfl
  have m4 : min 56 4 = 4 := rfl
  simp only [go_sem, seval, put8, bytes_cons, bytes_nil, Nat.mul_one, m1, m2]
  rw [of64_i]
  refine cg_frame (put_fun (BitVec.ofInt 64 i) 4) [] rfl trivial rfl ?_
  rintro sv own' ⟨rfl, rfl⟩
  refine ⟨Nat.le_refl _, ?_⟩
  have h52 : 52 ≤ (roomD room).length := by rw [roomD_len]; exact Nat.le_refl _
  simp only [go_sem, seval, put4, bytes_cons, bytes_nil, Nat.mul_one, m3, m4, bytes_take, bytes_length, drop12, room_tail, roomD_len, roomD_take, h52, List.append_nil, Tryd.results70]
  rw [← sealD_row]
  refine hQ _ _ (.agg (secRow (sealD e i room))) [] (RedV.drop ?_) ⟨rfl, rfl⟩
  simp only [go_sem, seval]

theorem splice_sec {cs : List SV} {s : List UInt8} (hs : s.length = 64) (hc : cs.length = 64) : splice cs 0 (secRow s) = secRow s := by
  have h64 : (secRow s).length = 64 := by rw [secRow_length, hs]
  unfold splice
  split
  · rename_i x hx; rw [hx] at h64; simp at h64
  · rw [List.take_zero, List.nil_append, Nat.zero_add, List.drop_of_length_le (by omega), List.append_nil]
theorem take_sec {s : List UInt8} (hs : s.length = 64) : (secRow s).take 64 = secRow s := List.take_of_length_le (by rw [secRow_length, hs]; exact Nat.le_refl _)
def sectorD (e : BitVec 64) (body : List UInt8) (i : Nat) : List UInt8 := sealD e i ((body.drop (min (i * 52) body.length)).take (min ((i + 1) * 52) body.length - min (i * 52) body.length))
theorem sectorD_length (e : BitVec 64) (body : List UInt8) (i : Nat) : (sectorD e body i).length = 64 := sealD_length _ _ _
theorem sector_fun (e : BitVec 64) (body : List UInt8) (full : Bool) (i : Nat) (hi : i ≤ 1000) (hb : body.length < 2 ^ 40) :
    Fun Tryd.prog GH 44 [w64 e, .fsl 1 (bytes body) full, i64 i] [] (fun sv own' => sv = .agg (secRow (sectorD e body i)) ∧ own' = []) := by
  refine fun_of_vcQ (D := fun _ => none) Tryd.func44 (rfl : Tryd.f44.body = some _) (by kernel_rfl) (by kernel_rfl) (by simp [Tryd.f44]) (by kernel_rfl) ?_; intro Q hE hQ
  have e1 : IntKind.i64.wrap ((i : Int) * 52) = ((i * 52 : Nat) : Int) := by rw [i64_in] <;> omega
  have e2 : IntKind.i64.wrap ((i : Int) + 1) = ((i + 1 : Nat) : Int) := by rw [i64_in] <;> omega
  have e3 : IntKind.i64.wrap (((i + 1 : Nat) : Int) * 52) = (((i + 1) * 52 : Nat) : Int) := by rw [i64_in] <;> omega
  have e4 : min ((i * 52 : Nat) : Int) (body.length : Int) = ((min (i * 52) body.length : Nat) : Int) := by omega
  have e5 : min (((i + 1) * 52 : Nat) : Int) (body.length : Int) = ((min ((i + 1) * 52) body.length : Nat) : Int) := by omega
  have h0 : ∀ n : Nat, (0 : Int) ≤ (n : Int) := fun n => by omega
  have h1 : min (i * 52) body.length ≤ min ((i + 1) * 52) body.length := by omega
  have h2 : min ((i + 1) * 52) body.length ≤ body.length := by omega
  simp only [go_sem, seval, bytes_length, e1, e2, e3, e4, e5, h0, h1, h2, Int.toNat_natCast, Nat.le_refl, bytes_drop, bytes_take]
  refine cg_frame (Post := fun sv own' => sv = .agg (secRow (sectorD e body i)) ∧ own' = []) (seal_fun e i ((body.drop (min (i * 52) body.length)).take (min ((i + 1) * 52) body.length - min (i * 52) body.length)) true) [] rfl trivial rfl ?_
  rintro sv own' ⟨rfl, rfl⟩
  refine ⟨Nat.le_refl _, ?_⟩
  have hl : (secRow (sectorD e body i)).length = 64 := by rw [secRow_length, sectorD_length]
  have hsp : ∀ cs : List SV, cs.length = 64 → splice cs 0 (secRow (sectorD e body i)) = secRow (sectorD e body i) := fun cs hc => splice_sec (sectorD_length _ _ _) hc
  have htk := take_sec (sectorD_length e body i)
  simp only [go_sem, seval, hl, hsp, htk, Nat.le_refl, Tryd.results44]
  refine hQ _ _ (.agg (secRow (sectorD e body i))) [] (RedV.drop ?_) ⟨rfl, rfl⟩
  simp only [go_sem, seval]

def planL (e : BitVec 64) (body : List UInt8) (a : Nat) (k : Nat) : List (List UInt8) := (List.range k).map fun i => sectorD e body (a + i)
def planW (e : BitVec 64) (body : List UInt8) (f t : Int) : Int × List (List UInt8) := ((spanTouch f t).1, planL e body (spanTouch f t).1.toNat ((spanTouch f t).2 - (spanTouch f t).1).toNat)
theorem touch_bound (f t : Int) : 0 ≤ (spanTouch f t).1 ∧ (spanTouch f t).1 ≤ (spanTouch f t).2 ∧ (spanTouch f t).2 ≤ 16 := by
  unfold spanTouch
  have := clamp_le f
  have := clamp_le t
  split
  · simp
  · simp only; omega
theorem secs_append (l : List (List UInt8)) (s : List UInt8) : secs l ++ [secRow s] = secs (l ++ [s]) := by simp [secs]
theorem planWrite_fun (e : BitVec 64) (body : List UInt8) (full : Bool) (f t : Int) (hb : body.length < 2 ^ 40) :
    Fun Tryd.prog GH 16 [w64 e, .fsl 1 (bytes body) full, i64 f, i64 t] [] (fun sv own' => sv = .tup [i64 (planW e body f t).1, .fsl 64 (secs (planW e body f t).2) false] ∧ own' = []) := by
  refine fun_of_vcQ (D := fun _ => none) Tryd.func16 (rfl : Tryd.f16.body = some _) (by kernel_rfl) (by kernel_rfl) (by simp [Tryd.f16]) (by kernel_rfl) ?_; intro Q hE hQ
  simp only [go_sem, seval]
  refine cg_frame (touch_fun f t) [] rfl trivial rfl ?_
  rintro sv own' ⟨rfl, rfl⟩
  refine ⟨Nat.le_refl _, ?_⟩
  obtain ⟨h1, h2, h3⟩ := touch_bound f t
  have hw : planW e body f t = ((spanTouch f t).1, planL e body (spanTouch f t).1.toNat ((spanTouch f t).2 - (spanTouch f t).1).toNat) := rfl
  rw [hw] at hE hQ
  generalize (spanTouch f t).1 = a at *
  generalize (spanTouch f t).2 = b at *
  obtain ⟨a, rfl⟩ := Int.eq_ofNat_of_zero_le h1
  have e0 : IntKind.i64.wrap (b - (a : Int)) = b - (a : Int) := i64_in _ (by omega)
  simp only [go_sem, seval, e0]
  refine loop_rule (A := { k : Nat // (k : Int) ≤ b - a })
    (fun k => [(0, w64 e), (1, .fsl 1 (bytes body) full), (10, i64 (a : Int)), (12, .gs 0), (22, i64 (b - a)), (23, i64 (k.1 : Int))])
    (fun k => [.grow 92 64 (secs (planL e body a k.1))]) (fun k => (b - a).toNat - k.1) ⟨0, by simp; omega⟩ ?_ ?_
  · refine Red.trans (Red.nil 12 92 64 (Nat.zero_le _) rfl) (Red.sub ?_)
    simp only [go_sem, seval]
  · rintro ⟨k, hk⟩
    have e1 : IntKind.i64.wrap ((k : Int) + 1) = ((k + 1 : Nat) : Int) := by rw [i64_in] <;> omega
    by_cases hlt : (k : Int) < b - a
    · have e2 : IntKind.i64.wrap ((a : Int) + (k : Int)) = ((a + k : Nat) : Int) := by rw [i64_in] <;> omega
      simp only [go_sem, seval, hlt, e2]
      refine cg_frame (sector_fun e body full (a + k) (by omega) hb) [] rfl trivial rfl ?_
      rintro sv own' ⟨rfl, rfl⟩
      refine ⟨Nat.le_refl _, ?_⟩
      have hl : (secRow (sectorD e body (a + k))).length = 64 := by rw [secRow_length, sectorD_length]
      simp only [go_sem, seval, e1, hl, secRow_clean, mx64_eq, secs_append]
      have hrow : planL e body a k ++ [sectorD e body (a + k)] = planL e body a (k + 1) := by simp [planL, List.range_succ]
      rw [hrow]
      refine ⟨by rw [secs_length]; simp [planL]; omega, ⟨k + 1, by omega⟩, by simp only; omega, ?_⟩
      refine Red.pick (idx := [2]) rfl rfl ⟨rfl, trivial⟩ ?_
      simp only [go_sem, seval]
    · have hkk : (b - (a : Int)).toNat = k := by omega
      simp only [go_sem, seval, hlt, Tryd.results16]
      refine hQ _ _ (.tup [i64 (a : Int), .fsl 64 (secs (planL e body a k)) false]) [] (Red.trans (RedV.freeze (i := 0) rfl) (RedV.drop rfl)) ⟨?_, rfl⟩
      simp only [Int.toNat_natCast, hkk]
end Go.AM
namespace Go.AM
open Go Go.Proofs Go.IntWalk
set_option autoImplicit false
set_option maxRecDepth 100000

/-! ### image.Add -/
theorem of32_64 (x : BitVec 64) : IntKind.u32.wrap (x.toNat : Int) = ((x.setWidth 32).toNat : Int) := by
  rw [IntKind.wrap_u32]; simp
theorem encD_length (k : Int) (e : BitVec 32) (data : List UInt8) : (encD k e data).length = data.length + 11 := by
  simp [encD, put4, encBody]
def body0 (body : List UInt8) : List UInt8 := body.take 832 ++ List.replicate (832 - body.length) 0
def layD (e : BitVec 32) (data : List UInt8) (l : List PieceD) (out : List UInt8) : List UInt8 := l.foldl (fun out p => over out p.at_.toNat (encD p.kind e (partD data p))) out
def addD (e : BitVec 64) (body : List UInt8) (data : List UInt8) (l : List PieceD) : List UInt8 := layD (e.setWidth 32) data l (body0 body)
def addSV (e : BitVec 64) (body data : List UInt8) : Option (List PieceD × Int) → SV
  | none => .tup [.v (.slice none 0 0), i64 0, bl false]
  | some (l, a) => .tup [.fsl 1 (bytes (addD e body data l)) false, i64 a, bl true]
theorem over_length {α : Type} (l : List α) (k : Nat) (new : List α) (h : k + new.length ≤ l.length) : (over l k new).length = l.length := by simp [over]; omega
theorem layD_snoc (e : BitVec 32) (data : List UInt8) (l : List PieceD) (p : PieceD) (out : List UInt8) : layD e data (l ++ [p]) out = over (layD e data l out) p.at_.toNat (encD p.kind e (partD data p)) := by simp [layD]
theorem partD_length {data : List UInt8} {p : PieceD} (h : PieceOk data.length p) : ((partD data p).length : Int) = p.to_ - p.from_ := by
  obtain ⟨p1, p2, p3, _⟩ := h
  simp only [partD, List.length_take, List.length_drop]; omega
theorem layD_length (e : BitVec 32) (data : List UInt8) : ∀ (l : List PieceD) (out : List UInt8), (∀ p ∈ l, PieceOk data.length p) → out.length = 832 → (layD e data l out).length = 832
  | [], out, _, h => h
  | p :: l, out, hp, h => by
    have hpp := hp p (by simp)
    have hl := partD_length hpp
    obtain ⟨p1, p2, p3, p4, p5, _⟩ := hpp
    refine layD_length e data l _ (fun q hq => hp q (by simp [hq])) ?_
    rw [over_length _ _ _ (by rw [encD_length]; omega), h]
theorem body0_length (body : List UInt8) : (body0 body).length = 832 := by simp [body0]; omega
theorem fragRows_length (e : BitVec 32) (data : List UInt8) (l : List PieceD) : (fragRows e data l).length = l.length := by simp [fragRows]
theorem fragRows_getD (e : BitVec 32) (data : List UInt8) (l : List PieceD) (k : Nat) (d : PieceD) (h : k < l.length) : (fragRows e data l).getD k [] = fragRow e data (l.getD k d) := by simp [fragRows, List.getD_eq_getElem?_getD, h]
theorem over_bytes (l : List UInt8) (k : Nat) (new : List UInt8) : (bytes l).take k ++ bytes new ++ (bytes l).drop (k + new.length) = bytes (over l k new) := by simp [bytes, over]
theorem zero_bytes (n : Nat) : List.replicate n [SV.v (.int .u8 0)] = bytes (List.replicate n 0) := by simp [bytes, b8]

theorem add_fun (e : BitVec 64) (body : List UInt8) (fb : Bool) (at_ : Int) (data : List UInt8) (fd : Bool) (hd : data.length < 2 ^ 40) :
    Fun Tryd.prog GH 15 [w64 e, .fsl 1 (bytes body) fb, i64 at_, .fsl 1 (bytes data) fd] [] (fun sv own' => sv = addSV e body data (cutD at_ data.length) ∧ own' = []) := by
  refine fun_of_vcQ (D := fun _ => none) Tryd.func15 (rfl : Tryd.f15.body = some _) (by kernel_rfl) (by kernel_rfl) (by simp [Tryd.f15]) (by kernel_rfl) ?_; intro Q hE hQ
  simp only [go_sem, seval, bytes_length]
  refine cg_frame (cut_fun at_ data.length) [] rfl trivial rfl ?_
  rintro sv own' ⟨rfl, rfl⟩
  refine ⟨Nat.le_refl _, ?_⟩
  rcases h : cutD at_ data.length with _ | ⟨l, a⟩
  · simp only [go_sem, seval, cutSV, bl, Tryd.results15]
    exact hE _ _ ⟨by rw [h]; rfl, rfl⟩
  · have hp := cutD_pieces h
    have hlen := cutD_len h
    have z832 : (832 : Int).toNat = 832 := rfl
    have hb0 : body.take 832 ++ (List.replicate 832 (0 : UInt8)).drop body.length = body0 body := by rw [List.drop_replicate]; rfl
    simp only [go_sem, seval, -List.reduceReplicate, cutSV, bl, w64, mx64_eq, bytes_length, z832, zero_bytes, List.length_replicate, bytes_take, bytes_drop, bytes_append, hb0]
    rw [of32_64 e]
    refine cg_frame (frags_fun (e.setWidth 32) at_ data fd hd) [] rfl trivial rfl ?_
    rintro sv own' ⟨rfl, rfl⟩
    refine ⟨Nat.le_refl _, ?_⟩
    simp only [go_sem, seval, h, fragsSV, bl, fragRows_length]
    refine loop_rule (A := { k : Nat // k ≤ l.length })
      (fun k => [(11, .fsl 4 (pieces l) false), (12, i64 a), (14, .gs 0), (43, .fsl 3 (fragRows (e.setWidth 32) data l) false), (44, i64 (l.length : Int)), (45, i64 (k.1 : Int))])
      (fun k => [.grow 5 1 (bytes (layD (e.setWidth 32) data (l.take k.1) (body0 body)))]) (fun k => l.length - k.1) ⟨0, Nat.zero_le _⟩ ?_ ?_
    · refine Red.sub ?_
      simp only [go_sem, seval]
    · rintro ⟨k, hk⟩
      have e1 : IntKind.i64.wrap ((k : Int) + 1) = ((k + 1 : Nat) : Int) := by rw [i64_in] <;> omega
      by_cases hlt : k < l.length
      · have hlt' : (k : Int) < (l.length : Int) := by omega
        have hk0 : (0 : Int) ≤ (k : Int) := by omega
        have hpm : PieceOk data.length l[k] := hp _ (List.getElem_mem hlt)
        have hpl := partD_length hpm
        have hg := pieces_getD l k l[k] hlt
        have hgf := fragRows_getD (e.setWidth 32) data l k l[k] hlt
        have hgl : l.getD k l[k] = l[k] := by simp [List.getD_eq_getElem?_getD, hlt]
        rw [hgl] at hg hgf
        obtain ⟨p1, p2, p3, p4, p5, p6, p7, p8⟩ := hpm
        simp only [go_sem, seval, hlt', hk0, fragRows_length, Int.toNat_natCast, hgf, fragRow, w32]
        have hr : fragRight l[k].kind (partD data l[k]).length = true := by
          simp only [fragRight, Bool.and_eq_true, decide_eq_true_eq]; omega
        have hlo := layD_length (e.setWidth 32) data (l.take k) (body0 body) (fun q hq => hp q (List.mem_of_mem_take hq)) (body0_length body)
        have hsn : layD (e.setWidth 32) data (l.take (k + 1)) (body0 body) = over (layD (e.setWidth 32) data (l.take k) (body0 body)) l[k].at_.toNat (encD l[k].kind (e.setWidth 32) (partD data l[k])) := by
          rw [← layD_snoc]; congr 1
          rw [List.take_add_one]; simp [hlt]
        refine cg_frame (encode_fun l[k].kind (e.setWidth 32) (partD data l[k]) false hr) [] rfl trivial rfl ?_
        rintro sv own' ⟨⟨b, rfl⟩, rfl⟩
        refine ⟨Nat.le_refl _, ?_⟩
        have q1 : l[k].at_.toNat ≤ 832 := by omega
        have hel := encD_length l[k].kind (e.setWidth 32) (partD data l[k])
        have q2 : l[k].at_.toNat + (832 - l[k].at_.toNat) ≤ 832 := by omega
        have q3 : (encD l[k].kind (e.setWidth 32) (partD data l[k])).take (832 - l[k].at_.toNat) = encD l[k].kind (e.setWidth 32) (partD data l[k]) := List.take_of_length_le (by omega)
        have q4 : min (832 - l[k].at_.toNat) (encD l[k].kind (e.setWidth 32) (partD data l[k])).length = (encD l[k].kind (e.setWidth 32) (partD data l[k])).length := by omega
        have hk' : (k : Int) < ((pieces l).length : Int) := by rw [pieces_length]; omega
        simp only [go_sem, seval, hlt', hk0, pieces_length, Int.toNat_natCast, hg, pieceRow, p4, e1, bytes_length, hlo, q1, q2, bytes_take, bytes_drop, bytes_append, q3, q4, Nat.le_refl]
        rw [← over, ← hsn]
        refine ⟨⟨k + 1, by omega⟩, by simp only; omega, ?_⟩
        refine Red.pick (idx := [0]) rfl rfl ⟨rfl, trivial⟩ ?_
        simp only [go_sem, seval]
      · have hge : ¬ (k : Int) < (l.length : Int) := by omega
        have hkl : l.take k = l := List.take_of_length_le (by omega)
        simp only [go_sem, seval, hge, hkl, Tryd.results15]
        exact hQ _ _ (addSV e body data (some (l, a))) [] (Red.trans (RedV.freeze (i := 0) rfl) (RedV.drop rfl)) ⟨by rw [h], rfl⟩
end Go.AM
namespace Go.AM
open Go Go.Proofs Go.IntWalk
set_option autoImplicit false
set_option maxRecDepth 100000

structure HdrD where
  epoch : BitVec 64
  seq : Int
  first : Int
  h0 : Int
  h1 : Int
  h2 : Int
  h3 : Int
def hdrC (h : HdrD) : List SV := [w64 h.epoch, i64 h.seq, i64 h.first, i64 h.h0, i64 h.h1, i64 h.h2, i64 h.h3]
def headOk (h : HdrD) (x : Int) : Bool := decide (0 ≤ x) && decide (x < h.first)
def hdrRight (h : HdrD) : Bool := headOk h h.h0 && headOk h h.h1 && headOk h h.h2 && headOk h h.h3 && decide (h.epoch.toNat ≠ 0) && decide (1 ≤ h.seq) && decide (h.seq ≤ 2147483647) && decide (1 ≤ h.first) && decide (h.first ≤ 2147483647)
def headN (h : HdrD) (k : Nat) : Int := [h.h0, h.h1, h.h2, h.h3].getD k 0
def headsTo (h : HdrD) (k : Nat) : Bool := ([h.h0, h.h1, h.h2, h.h3].take k).all (headOk h)
theorem hdrRight_fun (h : HdrD) : Fun Tryd.prog GH 29 [.agg (hdrC h)] [] (fun sv own' => sv = bl (hdrRight h) ∧ own' = []) := by
  refine fun_of_vcQ (D := fun _ => none) Tryd.func29 (rfl : Tryd.f29.body = some _) (by kernel_rfl) (by kernel_rfl) (by simp [Tryd.f29]) (by kernel_rfl) ?_; intro Q hE hQ
  simp only [go_sem, seval, hdrC, w64]
  refine loop_rule (A := { k : Nat // k ≤ 4 ∧ headsTo h k = true })
    (fun k => [(1, .ptr 0 0), (6, .agg [i64 h.h0, i64 h.h1, i64 h.h2, i64 h.h3]), (7, i64 (k.1 : Int))])
    (fun _ => [.cells 35 [w64 h.epoch, i64 h.seq, i64 h.first, i64 h.h0, i64 h.h1, i64 h.h2, i64 h.h3]]) (fun k => 4 - k.1) ⟨0, by decide, rfl⟩ ?_ ?_
  · refine Red.sub ?_
    simp only [go_sem, seval]
  · rintro ⟨k, hk, hall⟩
    by_cases hlt : k < 4
    · have hlt' : (k : Int) < 4 := by omega
      have hlt4 : (k : Int) < ((4 : Nat) : Int) := by omega
      have hk0 : (0 : Int) ≤ (k : Int) := by omega
      have e1 : IntKind.i64.wrap ((k : Int) + 1) = ((k + 1 : Nat) : Int) := by rw [i64_in] <;> omega
      have hix : mkv false (List.take 1 (List.drop k [SV.v (.int .i64 h.h0), SV.v (.int .i64 h.h1), SV.v (.int .i64 h.h2), SV.v (.int .i64 h.h3)])) = .v (.int .i64 (headN h k)) := by
        rcases k with _ | _ | _ | _ | k <;> first | rfl | omega
      have hstep : headsTo h (k + 1) = (headsTo h k && headOk h (headN h k)) := by
        rcases k with _ | _ | _ | _ | k <;> first | omega | simp [headsTo, headN, Bool.and_assoc]
      have hbad : headOk h (headN h k) = false → hdrRight h = false := by
        intro hb
        rcases k with _ | _ | _ | _ | k <;> first | omega | (simp only [headN, List.getD_cons_zero, List.getD_cons_succ] at hb; simp [hdrRight, hb])
      by_cases c1 : headN h k < 0
      · simp only [go_sem, seval, hlt', hlt4, hk0, Int.toNat_natCast, Nat.mul_one, hix, c1, Tryd.results29]
        refine hQ _ _ (bl (hdrRight h)) [] ?_ ⟨rfl, rfl⟩
        rw [hbad (by simp [headOk]; omega)]
        exact RedV.drop rfl
      · by_cases c2 : h.first ≤ headN h k
        · simp only [go_sem, seval, hlt', hlt4, hk0, Int.toNat_natCast, Nat.mul_one, hix, c1, c2, Tryd.results29]
          refine hQ _ _ (bl (hdrRight h)) [] ?_ ⟨rfl, rfl⟩
          rw [hbad (by simp [headOk]; omega)]
          exact RedV.drop rfl
        · simp only [go_sem, seval, hlt', hlt4, hk0, Int.toNat_natCast, Nat.mul_one, hix, c1, c2, e1]
          refine ⟨⟨k + 1, by omega, by rw [hstep, hall]; simp [headOk]; omega⟩, by simp only; omega, Red.sub ?_⟩
          simp only [go_sem, seval, w64]
    · have hge : ¬ (k : Int) < 4 := by omega
      have hk4 : k = 4 := by omega
      subst hk4
      have hr : hdrRight h = (decide (h.epoch.toNat ≠ 0) && decide (1 ≤ h.seq) && decide (h.seq ≤ 2147483647) && decide (1 ≤ h.first) && decide (h.first ≤ 2147483647)) := by
        have : headsTo h 4 = (headOk h h.h0 && headOk h h.h1 && headOk h h.h2 && headOk h h.h3) := by simp [headsTo, Bool.and_assoc]
        rw [this] at hall
        rw [hdrRight, hall, Bool.true_and]
      by_cases c1 : ((h.epoch.toNat : Nat) : Int) = 0 <;> by_cases c2 : 1 ≤ h.seq <;> by_cases c3 : h.seq ≤ 2147483647 <;> by_cases c4 : 1 ≤ h.first <;> by_cases c5 : h.first ≤ 2147483647 <;>
        simp only [go_sem, seval, hge, w64, c1, c2, c3, c4, c5, Tryd.results29]
      all_goals
        refine hQ _ _ (bl (hdrRight h)) [] ?_ ⟨rfl, rfl⟩
        have c1' : (h.epoch.toNat = 0) ↔ ((h.epoch.toNat : Nat) : Int) = 0 := by omega
        rw [hr]
        simp only [ne_eq, c1', c1, c2, c3, c4, c5, decide_true, decide_false, not_true_eq_false, not_false_eq_true, Bool.and_true, Bool.and_false, Bool.true_and, Bool.false_and]
        exact RedV.drop rfl
end Go.AM
namespace Go.AM
open Go Go.Proofs Go.IntWalk
set_option autoImplicit false
set_option maxRecDepth 100000

def ints (l : List Int) : List (List SV) := l.map fun n => [i64 n]
theorem ints_length (l : List Int) : (ints l).length = l.length := by simp [ints]
theorem ints_getD (l : List Int) (k : Nat) (h : k < l.length) : (ints l).getD k [] = [i64 (l.getD k 0)] := by simp [ints, List.getD_eq_getElem?_getD, h]
theorem ints_get (l : List Int) (k : Nat) (h : k < l.length) : (ints l)[k]? = some [i64 (l.getD k 0)] := by simp [ints, List.getD_eq_getElem?_getD, h]
def putI (n : Int) : List UInt8 := put (BitVec.ofInt 64 n) 4
theorem putI_length (n : Int) : (putI n).length = 4 := by rw [putI, put4]; rfl
def layH (s : List UInt8) (at_ : Nat) (l : List Int) : List UInt8 := l.foldl (fun (x : List UInt8 × Nat) n => (over x.1 x.2 (putI n), x.2 + 4)) (s, at_) |>.1
def layS (s : List UInt8) (at_ : Nat) (l : List Int) : List UInt8 × Nat := l.foldl (fun (x : List UInt8 × Nat) n => (over x.1 x.2 (putI n), x.2 + 4)) (s, at_)
theorem layS_snd (at_ : Nat) : ∀ (l : List Int) (s : List UInt8) (a : Nat), (l.foldl (fun (x : List UInt8 × Nat) n => (over x.1 x.2 (putI n), x.2 + 4)) (s, a)).2 = a + 4 * l.length
  | [], s, a => by simp
  | n :: l, s, a => by simp only [List.foldl_cons, List.length_cons]; rw [layS_snd at_ l]; omega
theorem layH_take (s : List UInt8) (at_ : Nat) (l : List Int) (k : Nat) (h : k < l.length) : layH s at_ (l.take (k + 1)) = over (layH s at_ (l.take k)) (at_ + 4 * k) (putI (l.getD k 0)) := by
  have e : l[k]? = some l[k] := List.getElem?_eq_getElem h
  unfold layH
  rw [List.take_add_one, List.foldl_append, List.getD_eq_getElem?_getD, e]
  simp only [Option.toList_some, List.foldl_cons, List.foldl_nil, Option.getD_some]
  rw [layS_snd at_]
  have : (l.take k).length = k := by rw [List.length_take]; omega
  rw [this]
theorem layH_length (s : List UInt8) (at_ : Nat) (l : List Int) (h : at_ + 4 * l.length ≤ s.length) : (layH s at_ l).length = s.length := by
  have key : ∀ k, k ≤ l.length → (layH s at_ (l.take k)).length = s.length := by
    intro k
    induction k with
    | zero => intro _; rfl
    | succ k ih =>
      intro hk
      rw [layH_take s at_ l k (by omega), over_length _ _ _ (by rw [putI_length, ih (by omega)]; omega), ih (by omega)]
  have := key l.length (Nat.le_refl _)
  rwa [List.take_length] at this
theorem over_secRow (s : List UInt8) (k : Nat) (new : List UInt8) : (secRow s).take k ++ (bytes new).flatten ++ (secRow s).drop (k + new.length) = secRow (over s k new) := by
  simp [secRow, over, bytes_flat]
theorem lay_fun (s : List UInt8) (at_ : Nat) (l : List Int) (hs : s.length = 64) (hl : at_ + 4 * l.length ≤ 64) :
    Fun Tryd.prog GH 73 [.ptr 0 0, i64 at_, .gs 1] [.cells 92 (secRow s), .grow 3 1 (ints l)] (fun sv own' => sv = .tup [] ∧ own' = [.cells 92 (secRow (layH s at_ l)), .grow 3 1 (ints l)]) := by
  refine fun_of_vcQ (D := fun n => match n with | 3 => some (.fl 0 (.fl 1 (.fl 2 (.fl 3 (.fl 4 (.fl 5 (.fl 6 (.fl 7 (.fl 8 (.mv 9 [6] (.mv 10 [] (.done) .no) .no)))))))))) | _ => none) Tryd.func73 (rfl : Tryd.f73.body = some _) (by kernel_rfl) (by kernel_rfl) (by simp [Tryd.f73]) (by kernel_rfl) ?_; intro Q hE hQ
  simp only [go_sem, seval, ints_length]
  refine loop_rule (A := { k : Nat // k ≤ l.length })
    (fun k => [(0, .ptr 0 0), (1, i64 at_), (8, .gs 1), (9, i64 (l.length : Int)), (10, i64 (k.1 : Int))])
    (fun k => [.cells 92 (secRow (layH s at_ (l.take k.1))), .grow 3 1 (ints l)]) (fun k => l.length - k.1) ⟨0, Nat.zero_le _⟩ ?_ ?_
  · refine Red.sub ?_
    simp only [go_sem, seval]
  · rintro ⟨k, hk⟩
    have e1 : IntKind.i64.wrap ((k : Int) + 1) = ((k + 1 : Nat) : Int) := by rw [i64_in] <;> omega
    by_cases hlt : k < l.length
    · have hlt' : (k : Int) < (l.length : Int) := by omega
      have hk0 : (0 : Int) ≤ (k : Int) := by omega
      have e2 : IntKind.i64.wrap (4 * (k : Int)) = ((4 * k : Nat) : Int) := by rw [i64_in] <;> omega
      have e3 : IntKind.i64.wrap ((at_ : Int) + ((4 * k : Nat) : Int)) = ((at_ + 4 * k : Nat) : Int) := by rw [i64_in] <;> omega
      have hg := ints_get l k hlt
      have h0 : (0 : Int) ≤ ((at_ + 4 * k : Nat) : Int) := by omega
      have q1 : at_ + 4 * k ≤ 64 := by omega
      simp only [go_sem, seval, hlt', hk0, ints_length, Int.toNat_natCast, hg, e2, e3, h0, q1, of64_i]
      refine cg_frame (Post := fun sv own' => sv = .fsl 1 (bytes (putI (l.getD k 0))) false ∧ own' = []) (put_fun (BitVec.ofInt 64 (l.getD k 0)) 4) [] rfl trivial rfl ?_
      rintro sv own' ⟨rfl, rfl⟩
      refine ⟨Nat.le_refl _, ?_⟩
      have hlen := layH_length s at_ (l.take k) (by simp; omega)
      have q2 : at_ + 4 * k + (64 - (at_ + 4 * k)) ≤ (secRow (layH s at_ (l.take k))).length := by rw [secRow_length, hlen, hs]; omega
      have q3 : (putI (l.getD k 0)).take (64 - (at_ + 4 * k)) = putI (l.getD k 0) := List.take_of_length_le (by rw [putI_length]; omega)
      have q4 : min (64 - (at_ + 4 * k)) (putI (l.getD k 0)).length = (putI (l.getD k 0)).length := by rw [putI_length]; omega
      simp only [go_sem, seval, e1, e2, e3, q1, q2, h0, Nat.mul_one, Nat.zero_add, Int.toNat_natCast, bytes_take, bytes_length, q3, q4, over_secRow, Nat.le_refl]
      rw [← layH_take s at_ l k hlt]
      refine ⟨⟨k + 1, by omega⟩, by simp only; omega, Red.sub ?_⟩
      simp only [go_sem, seval]
    · have hge : ¬ (k : Int) < (l.length : Int) := by omega
      have hkl : l.take k = l := List.take_of_length_le (by omega)
      simp only [go_sem, seval, hge, hkl, Tryd.results73]
      exact hE _ _ ⟨rfl, rfl⟩

def sumD (s : List UInt8) : BitVec 32 := crcMask (crcOf (s.take 37))
theorem sum_fun (s : List UInt8) (hs : s.length = 64) : Fun Tryd.prog GH 74 [.agg (secRow s)] [] (fun sv own' => sv = w32 (sumD s) ∧ own' = []) := by
  refine fun_of_vcQ (D := fun _ => none) Tryd.func74 (rfl : Tryd.f74.body = some _) (by kernel_rfl) (by kernel_rfl) (by simp [Tryd.f74]) (by kernel_rfl) ?_; intro Q hE hQ
  simp only [go_sem, seval]
  refine cg_lend (Post := fun sv own' => sv = w32 (crcOf (s.take 37)) ∧ own' = []) ?_ ?_
  · simp only [List.map_cons, List.map_nil]
    rw [lend_asl (i := 0) rfl (secRow_clean s) (by rw [secRow_length, hs]; decide)]
    have : (((secRow s).drop 0).take 37).map (fun c => [c]) = bytes (s.take 37) := by
      simp [secRow, bytes, List.map_take, Function.comp_def]
    exact (congrArg (fun r => Fun Tryd.prog GH 69 [.fsl 1 r false] [] (fun sv own' => sv = w32 (crcOf (s.take 37)) ∧ own' = [])) this).mpr (of_fun (s.take 37) false (by simp; omega))
  rintro sv own' ⟨rfl, rfl⟩
  refine ⟨rfl, ?_⟩
  simp only [go_sem, seval]
  refine cg_frame (mask_fun (crcOf (s.take 37))) [] rfl trivial rfl ?_
  rintro sv own' ⟨rfl, rfl⟩
  refine ⟨Nat.le_refl _, ?_⟩
  simp only [go_sem, seval, Tryd.results74]
  exact hQ _ _ (w32 (sumD s)) [] (RedV.drop rfl) ⟨rfl, rfl⟩

def hdrBase (e : BitVec 64) : List UInt8 := [115, 116, 114, 100, 1] ++ put e 8 ++ List.replicate 51 0
def hdrL (h : HdrD) : List Int := [h.seq, h.first, h.h0, h.h1, h.h2, h.h3]
def hdrE (h : HdrD) : List UInt8 :=
  layH (layH (hdrBase h.epoch) 13 (hdrL h)) 37 [((sumD (layH (hdrBase h.epoch) 13 (hdrL h))).toNat : Int)]
theorem hdrBase_length (e : BitVec 64) : (hdrBase e).length = 64 := by simp [hdrBase, put8]
theorem hdrE1_length (h : HdrD) : (layH (hdrBase h.epoch) 13 (hdrL h)).length = 64 := by
  rw [layH_length _ _ _ (by rw [hdrBase_length]; show 13 + 4 * 6 ≤ 64; decide), hdrBase_length]
theorem hdrE_length (h : HdrD) : (hdrE h).length = 64 := by
  rw [hdrE, layH_length _ _ _ (by rw [hdrE1_length]; show 37 + 4 * 1 ≤ 64; decide), hdrE1_length]
def zSecD : List UInt8 := List.replicate 64 0
def encSV (h : HdrD) : SV := if hdrRight h then .tup [.agg (secRow (hdrE h)), i64 0] else .tup [.agg (secRow zSecD), i64 13]
theorem hdrEncode_fun (h : HdrD) : Fun Tryd.prog GH 61 [.agg (hdrC h)] [] (fun sv own' => sv = encSV h ∧ own' = []) := by
  refine fun_of_vcQ (D := fun n => match n with | 6 => some (.fl 0 (.fl 1 (.fl 2 (.mv 3 [0] (.mv 4 [] (.done) .no) .no)))) | 7 => some (.fl 0 (.fl 1 (.fl 2 (.fl 3 (.fl 5 (.fl 6 (.mv 4 [6] (.mv 7 [] (.mv 8 [] (.done) .no) .no) .no))))))) | _ => none) Tryd.func61 (rfl : Tryd.f61.body = some _) (by kernel_rfl) (by kernel_rfl) (by simp [Tryd.f61]) (by kernel_rfl) ?_; intro Q hE hQ
  simp only [go_sem, seval, hdrC]
  refine cg_frame (hdrRight_fun h) [] rfl trivial rfl ?_
  rintro sv own' ⟨rfl, rfl⟩
  refine ⟨Nat.le_refl _, ?_⟩
  cases hr : hdrRight h
  · simp only [go_sem, seval, bl, hr, Tryd.results61]
    refine hQ _ _ (.tup [.agg (secRow zSecD), i64 13]) [] (RedV.drop rfl) ⟨?_, rfl⟩
    rw [encSV, hr]; rfl
  · have m1 : min 8 59 = 8 := rfl
    have m2 : min 59 8 = 8 := rfl
    have r1 : strRows ⟨#[115, 116, 114, 100]⟩ = [[u8 115], [u8 116], [u8 114], [u8 100]] := by simp [strRows, ByteArray.toList_eq, u8]
    have r2 : #[(115 : UInt8), 116, 114, 100].size = 4 := rfl
    have m3 : min 4 64 = 4 := rfl
    have m4 : min 64 4 = 4 := rfl
    simp only [go_sem, seval, bl, hr, w64, m1, m2, m3, m4, r1, r2]
    refine cg_frame (put_fun h.epoch 8) [] rfl trivial rfl ?_
    rintro sv own' ⟨rfl, rfl⟩
    refine ⟨Nat.le_refl _, ?_⟩
    simp only [go_sem, seval, put8, bytes_cons, bytes_nil, Nat.mul_one, m1, m2]
    have hb : SO.cells 92 (SV.v (.int .u8 115) :: SV.v (.int .u8 116) :: SV.v (.int .u8 114) :: SV.v (.int .u8 100) :: SV.v (.int .u8 1) :: b8 (putB h.epoch 0) :: b8 (putB h.epoch 1) :: b8 (putB h.epoch 2) :: b8 (putB h.epoch 3) :: b8 (putB h.epoch 4) :: b8 (putB h.epoch 5) :: b8 (putB h.epoch 6) :: b8 (putB h.epoch 7) :: [SV.v (.int .u8 0), SV.v (.int .u8 0), SV.v (.int .u8 0), SV.v (.int .u8 0), SV.v (.int .u8 0), SV.v (.int .u8 0), SV.v (.int .u8 0), SV.v (.int .u8 0), SV.v (.int .u8 0), SV.v (.int .u8 0), SV.v (.int .u8 0), SV.v (.int .u8 0), SV.v (.int .u8 0), SV.v (.int .u8 0), SV.v (.int .u8 0), SV.v (.int .u8 0), SV.v (.int .u8 0), SV.v (.int .u8 0), SV.v (.int .u8 0), SV.v (.int .u8 0), SV.v (.int .u8 0), SV.v (.int .u8 0), SV.v (.int .u8 0), SV.v (.int .u8 0), SV.v (.int .u8 0), SV.v (.int .u8 0), SV.v (.int .u8 0), SV.v (.int .u8 0), SV.v (.int .u8 0), SV.v (.int .u8 0), SV.v (.int .u8 0), SV.v (.int .u8 0), SV.v (.int .u8 0), SV.v (.int .u8 0), SV.v (.int .u8 0), SV.v (.int .u8 0), SV.v (.int .u8 0), SV.v (.int .u8 0), SV.v (.int .u8 0), SV.v (.int .u8 0), SV.v (.int .u8 0), SV.v (.int .u8 0), SV.v (.int .u8 0), SV.v (.int .u8 0), SV.v (.int .u8 0), SV.v (.int .u8 0), SV.v (.int .u8 0), SV.v (.int .u8 0), SV.v (.int .u8 0), SV.v (.int .u8 0), SV.v (.int .u8 0)]) = SO.cells 92 (secRow (hdrBase h.epoch)) := by
      simp [secRow, hdrBase, put8, b8]
    rw [hb]
    have hl1 : hdrL h = [h.seq, h.first, h.h0, h.h1, h.h2, h.h3] := rfl
    refine ⟨by rw [mx64_eq]; decide, ?_⟩
    refine cg_frame (lay_fun (hdrBase h.epoch) 13 (hdrL h) (hdrBase_length _) (by show 13 + 4 * 6 ≤ 64; decide)) [2, 4] rfl ⟨rfl, rfl, trivial⟩ rfl ?_
    rintro sv own' ⟨rfl, rfl⟩
    refine ⟨by simp only [List.length_cons, List.length_nil, Nat.le_refl], ?_⟩
    have n1 : (layH (hdrBase h.epoch) 13 (hdrL h)).length = 64 := hdrE1_length h
    have eh : layH (layH (hdrBase h.epoch) 13 (hdrL h)) 37 [((sumD (layH (hdrBase h.epoch) 13 (hdrL h))).toNat : Int)] = hdrE h := rfl
    clear hb
    generalize layH (hdrBase h.epoch) 13 (hdrL h) = S at n1 eh ⊢
    have l1 : (secRow S).length = 64 := by rw [secRow_length, n1]
    have k1 := take_sec n1
    simp only [go_sem, seval, l1, k1, Nat.le_refl]
    refine cg_frame (Post := fun sv own' => sv = w32 (sumD S) ∧ own' = []) (sum_fun S n1) [] rfl trivial (by show _ = [SV.agg (renL _ (secRow _))]; rw [renL_secRow]) ?_
    rintro sv own' ⟨rfl, rfl⟩
    refine ⟨Nat.le_refl _, ?_⟩
    have w1 : IntKind.i64.wrap ((sumD S).toNat : Int) = ((sumD S).toNat : Int) := by
      have := (sumD S).isLt
      rw [i64_in] <;> omega
    simp only [go_sem, seval, w32, w1]
    have hS := lay_fun S 37 [((sumD S).toNat : Int)] n1 (by show 37 + 4 * 1 ≤ 64; decide)
    rw [eh] at hS
    have l2 : (secRow (hdrE h)).length = 64 := by rw [secRow_length, hdrE_length]
    have k2 := take_sec (hdrE_length h)
    have hsp : ∀ cs : List SV, cs.length = 64 → splice cs 0 (secRow (hdrE h)) = secRow (hdrE h) := fun cs hc => splice_sec (hdrE_length _) hc
    have hen : encSV h = .tup [.agg (secRow (hdrE h)), i64 0] := by rw [encSV, hr]; rfl
    rw [hen] at hE hQ
    generalize hdrE h = E at hS l2 k2 hsp hE hQ
    refine cg_frame hS [2, 5] rfl ⟨by show some (SO.cells _ (secRow S)) = some (SO.cells _ (renL _ (secRow S))); rw [renL_secRow], rfl, trivial⟩ rfl ?_
    rintro sv own' ⟨rfl, rfl⟩
    refine ⟨by simp only [List.length_cons, List.length_nil, Nat.le_refl], ?_⟩
    simp only [go_sem, seval, l2, k2, hsp, Nat.le_refl, Tryd.results61]
    refine hQ _ _ (.tup [.agg (secRow E), i64 0]) [] (RedV.drop ?_) ⟨rfl, rfl⟩
    simp only [go_sem, seval]
end Go.AM
namespace Go.AM
open Go Go.Proofs Go.IntWalk
set_option autoImplicit false
set_option maxRecDepth 100000

section
variable {α : Type}
theorem mget_cons (p : List UInt8 × α) (es : List (List UInt8 × α)) (t : List UInt8) : mget (p :: es) t = if p.1 = t then some p.2 else mget es t := by
  unfold mget
  rw [List.find?_cons]
  by_cases h : p.1 = t
  · simp [h]
  · have : (p.1 == t) = false := by simpa using h
    simp [h, this]
theorem mget_nil (t : List UInt8) : mget ([] : List (List UInt8 × α)) t = none := rfl
theorem mget_mset (es : List (List UInt8 × α)) (k : List UInt8) (v : α) (t : List UInt8) : mget (mset es k v) t = if t = k then (mget es k).map (fun _ => v) else mget es t := by
  induction es with
  | nil => simp [mset, mget_nil]
  | cons p es ih =>
    have hm : mset (p :: es) k v = (if p.1 = k then (k, v) else p) :: mset es k v := rfl
    rw [hm, mget_cons, ih, mget_cons, mget_cons]
    by_cases h1 : p.1 = k
    · by_cases h2 : t = k
      · simp [h1, h2]
      · have h3 : ¬ k = t := fun e => h2 e.symm
        simp [h1, h2, h3]
    · by_cases h2 : t = k
      · subst h2; simp [h1]
      · simp [h1, h2]
theorem mget_append (es : List (List UInt8 × α)) (k : List UInt8) (v : α) (t : List UInt8) : mget (es ++ [(k, v)]) t = (mget es t).or (if k = t then some v else none) := by
  induction es with
  | nil => simp [mget_cons, mget_nil]
  | cons p es ih => rw [List.cons_append, mget_cons, ih, mget_cons]; split <;> simp
theorem mget_mhas {es : List (List UInt8 × α)} {k : List UInt8} : mhas es k = (mget es k).isSome := by
  induction es with
  | nil => rfl
  | cons p es ih =>
    have hm : mhas (p :: es) k = ((p.1 == k) || mhas es k) := rfl
    rw [hm, ih, mget_cons]
    by_cases h : p.1 = k <;> simp [h]
theorem mget_mput (es : List (List UInt8 × α)) (k : List UInt8) (v : α) (t : List UInt8) : mget (mput es k v) t = if t = k then some v else mget es t := by
  unfold mput
  rw [mget_mhas]
  cases h : mget es k with
  | none =>
    rw [Option.isSome_none, if_neg (by simp), mget_append]
    by_cases h2 : t = k
    · subst h2; simp [h]
    · have h3 : ¬ k = t := fun e => h2 e.symm
      simp [h2, h3]
  | some u =>
    rw [Option.isSome_some, if_pos rfl, mget_mset, h]
    by_cases h2 : t = k <;> simp [h2]
theorem mget_mdel (es : List (List UInt8 × α)) (k : List UInt8) (t : List UInt8) : mget (mdel es k) t = if t = k then none else mget es t := by
  induction es with
  | nil => simp [mdel, mget_nil]
  | cons p es ih =>
    by_cases h1 : p.1 = k
    · have hm : mdel (p :: es) k = mdel es k := by simp [mdel, h1]
      rw [hm, ih, mget_cons]
      by_cases h2 : t = k
      · simp [h2]
      · have h3 : ¬ k = t := fun e => h2 e.symm
        simp [h1, h2, h3]
    · have hm : mdel (p :: es) k = p :: mdel es k := by simp [mdel, h1]
      rw [hm, mget_cons, ih, mget_cons]
      by_cases h2 : t = k
      · subst h2; simp [h1]
      · simp [h2]
theorem mset_length (es : List (List UInt8 × α)) (k : List UInt8) (v : α) : (mset es k v).length = es.length := by simp [mset]
theorem mput_length (es : List (List UInt8 × α)) (k : List UInt8) (v : α) : (mput es k v).length ≤ es.length + 1 := by
  unfold mput; split
  · rw [mset_length]; omega
  · simp
theorem mdel_length (es : List (List UInt8 × α)) (k : List UInt8) : (mdel es k).length ≤ es.length := List.length_filter_le _ _
theorem mdel_length_lt {es : List (List UInt8 × α)} {k : List UInt8} {v : α} (h : mget es k = some v) : (mdel es k).length < es.length := by
  induction es with
  | nil => cases h
  | cons p es ih =>
    by_cases h1 : p.1 = k
    · have hm : mdel (p :: es) k = mdel es k := by simp [mdel, h1]
      have := mdel_length es k
      rw [hm, List.length_cons]; omega
    · have hm : mdel (p :: es) k = p :: mdel es k := by simp [mdel, h1]
      rw [mget_cons, if_neg h1] at h
      have := ih h
      rw [hm, List.length_cons, List.length_cons]; omega
end

theorem thenD_wf {d : DiskD} {k : DiskD → DiskD} (hw : WFD d) (hk : WFD (opD d) → WFD (k (opD d))) : WFD (thenD d k).1 := by
  have ho : WFD (opD d) := by unfold WFD; rw [opD_files]; exact hw
  unfold thenD; split
  · exact ho
  · exact hk ho
theorem writeF_wf {f : FileD} {a : Nat} {l : List (List UInt8)} (h : WFF f) (hl : a + l.length ≤ f.seen.length) : WFF (writeF f a l) := by
  obtain ⟨h1, h2, h3⟩ := h
  have e1 : (over f.seen a l).length = f.seen.length := by simp [over]; omega
  have e2 : (over f.waits a (List.replicate l.length true)).length = f.waits.length := by simp [over]; omega
  exact ⟨by show f.lasting.length = (over f.seen a l).length; omega, by show (over f.waits a (List.replicate l.length true)).length = (over f.seen a l).length; omega, by show (over f.seen a l).length ≤ 64; omega⟩
theorem mset_wf {d : DiskD} {s : List UInt8} {f : FileD} (hw : WFD d) (hf : WFF f) : WFD { d with files := mset d.files s f } := by
  refine ⟨by rw [mset_length]; exact hw.1, fun t g hg => ?_⟩
  rw [mget_mset] at hg
  by_cases h : t = s
  · rw [if_pos h] at hg
    cases hm : mget d.files s with
    | none => rw [hm] at hg; cases hg
    | some u => rw [hm] at hg; injection hg with hg; rwa [← hg]
  · rw [if_neg h] at hg; exact hw.2 t g hg
theorem write_wf {d : DiskD} (s : List UInt8) (a : Int) (l : List (List UInt8)) (hw : WFD d) : WFD (writeD d s a l).1 := by
  unfold writeD
  split
  · exact hw
  · cases hm : mget d.files s with
    | none => exact hw
    | some f =>
      have hf := hw.2 s f hm
      simp only
      split
      · rename_i hh
        obtain ⟨n, rfl, hn⟩ := holds_true hh hf.2.2
        refine thenD_wf hw fun ho => ?_
        simp only [opD_files]
        have := mset_wf (s := s) ho (writeF_wf (l := l) hf hn)
        rw [opD_files] at this
        exact this
      · exact hw
theorem sync_wf {d : DiskD} (s : List UInt8) (hw : WFD d) : WFD (syncD d s).1 := by
  unfold syncD
  split
  · exact hw
  · cases hm : mget d.files s with
    | none => exact hw
    | some f =>
      have hf := hw.2 s f hm
      refine thenD_wf hw fun ho => ?_
      simp only [opD_files]
      have hf2 : WFF (syncF f) := ⟨rfl, by show (List.replicate f.waits.length false).length = f.seen.length; rw [List.length_replicate]; exact hf.2.1, hf.2.2⟩
      have := mset_wf (s := s) ho hf2
      rw [opD_files] at this
      exact this
theorem mput_wf {d : DiskD} {s : List UInt8} {f : FileD} (hw : ∀ t g, mget d.files t = some g → WFF g) (hf : WFF f) (hl : (mput d.files s f).length ≤ 64) : WFD { d with files := mput d.files s f } := by
  refine ⟨hl, fun t g hg => ?_⟩
  rw [mget_mput] at hg
  by_cases h : t = s
  · rw [if_pos h] at hg; injection hg with hg; rwa [← hg]
  · rw [if_neg h] at hg; exact hw t g hg
theorem rename_wf {d : DiskD} (a b : List UInt8) (hw : WFD d) : WFD (renameD d a b).1 := by
  unfold renameD
  split
  · exact hw
  · cases hm : mget d.files a with
    | none => exact hw
    | some f =>
      have hf := hw.2 a f hm
      simp only
      split
      · split
        · exact hw
        · refine thenD_wf hw fun ho => ?_
          have h1 := mdel_length_lt (es := (opD d).files) (by rw [opD_files]; exact hm)
          have h2 := mput_length (mdel (opD d).files a) b f
          have h3 := ho.1
          refine mput_wf (d := { opD d with files := mdel (opD d).files a }) (fun t g hg => ?_) hf (by show (mput (mdel (opD d).files a) b f).length ≤ 64; omega)
          have hg : mget (mdel (opD d).files a) t = some g := hg
          rw [mget_mdel] at hg
          split at hg
          · cases hg
          · exact ho.2 t g hg
      · exact hw
theorem newF_wf {n : Nat} (h : n ≤ 64) : WFF (newF n) := by simp [WFF, newF, h]
theorem make_wf {d : DiskD} (s : List UInt8) (n : Int) (hw : WFD d) : WFD (makeO d s n).1 := by
  unfold makeO
  split
  · exact hw
  split
  · exact hw
  split
  · exact hw
  split
  · exact hw
  split
  · exact hw
  rename_i h1 h2
  refine thenD_wf hw fun ho => ?_
  have h4 := mput_length (opD d).files s (newF n.toNat)
  have h5 : ((opD d).files).length = d.files.length := by rw [opD_files]
  exact mput_wf ho.2 (newF_wf (by omega)) (by omega)
end Go.AM
namespace Go.AM
open Go Go.Proofs Go.IntWalk
set_option autoImplicit false
set_option maxRecDepth 100000

theorem pup_fun (d : DiskD) : Fun Tryd.prog GH 57 [.ptr 0 0] (dOwn d) (fun sv own' => sv = i64 (mayE d) ∧ own' = dOwn d) := by
  refine fun_of_vcQ (D := fun _ => none) Tryd.func57 (rfl : Tryd.f57.body = some _) (by kernel_rfl) (by kernel_rfl) (by simp [Tryd.f57]) (by kernel_rfl) ?_; intro Q hE hQ
  simp only [go_sem, seval]
  refine cg_all (down_fun d) ?_
  rintro sv own' ⟨rfl, rfl⟩
  cases hd : d.down <;> simp only [go_sem, seval, bl, Tryd.results57] <;> exact hE _ _ ⟨by simp [mayE, hd, i64], rfl⟩
theorem sup_fun (d : DiskD) : Fun Tryd.prog GH 30 [.ptr 0 0] (dOwn d) (fun sv own' => sv = i64 (mayE d) ∧ own' = dOwn d) := by
  refine fun_of_vcQ (D := fun _ => none) Tryd.func30 (rfl : Tryd.f30.body = some _) (by kernel_rfl) (by kernel_rfl) (by simp [Tryd.f30]) (by kernel_rfl) ?_; intro Q hE hQ
  simp only [go_sem, seval]
  refine cg_all (down_fun d) ?_
  rintro sv own' ⟨rfl, rfl⟩
  cases hd : d.down <;> simp only [go_sem, seval, bl, Tryd.results30] <;> exact hE _ _ ⟨by simp [mayE, hd, i64], rfl⟩

def inD (d : DiskD) (s : List UInt8) : Bool := decide ((parseD s).1 = 2) && decide (sizeD d s = 17)
theorem in_fun (d : DiskD) (s : List UInt8) (hs : s.length < 2 ^ 62) : Fun Tryd.prog GH 59 [.ptr 0 0, str s] (dOwn d) (fun sv own' => sv = bl (inD d s) ∧ own' = dOwn d) := by
  refine fun_of_vcQ (D := fun _ => none) Tryd.func59 (rfl : Tryd.f59.body = some _) (by kernel_rfl) (by kernel_rfl) (by simp [Tryd.f59]) (by kernel_rfl) ?_; intro Q hE hQ
  simp only [go_sem, seval]
  refine cg_frame (parse_fun s hs) [] rfl trivial rfl ?_
  rintro sv own' ⟨rfl, rfl⟩
  refine ⟨Nat.le_refl _, ?_⟩
  by_cases hp : (parseD s).1 = 2
  · simp only [go_sem, seval, hp]
    refine cg_all (size_fun d s) ?_
    rintro sv own' ⟨rfl, rfl⟩
    by_cases h17 : sizeD d s = 17 <;> simp only [go_sem, seval, h17, Tryd.results59] <;> exact hE _ _ ⟨by simp [inD, hp, h17, bl], rfl⟩
  · simp only [go_sem, seval, hp, Tryd.results59]
    exact hE _ _ ⟨by simp [inD, hp, bl], rfl⟩

theorem poolD_at (n : Nat) (h : n ≤ 2) : poolD (n : Int) = freeP ++ [digB n] := by
  have h1 : ¬ ((n : Int) < 0 ∨ 2 < (n : Int)) := by omega
  rw [poolD, if_neg h1, Int.toNat_natCast, digits_lt (by omega)]
theorem poolD_len (n : Nat) (h : n ≤ 2) : (poolD (n : Int)).length < 2 ^ 62 := by
  rw [poolD_at n h]; simp [freeP]
theorem poolD_ne (n : Nat) (h : n ≤ 2) : poolD (n : Int) ≠ [] := by
  rw [poolD_at n h]; simp [freeP]
theorem empty_toList : (⟨#[]⟩ : ByteArray).toList = [] := by simp [ByteArray.toList_eq]
def unusedD (d : DiskD) : List UInt8 := if sizeD d (poolD 1) = 0 then poolD 1 else if sizeD d (poolD 2) = 0 then poolD 2 else []
theorem unused_fun (d : DiskD) : Fun Tryd.prog GH 60 [.ptr 0 0] (dOwn d) (fun sv own' => sv = str (unusedD d) ∧ own' = dOwn d) := by
  refine fun_of_vcQ (D := fun _ => none) Tryd.func60 (rfl : Tryd.f60.body = some _) (by kernel_rfl) (by kernel_rfl) (by simp [Tryd.f60]) (by kernel_rfl) ?_; intro Q hE hQ
  simp only [go_sem, seval]
  refine loop_rule (A := { k : Nat // k ≤ 2 ∧ (1 ≤ k → sizeD d (poolD 1) ≠ 0) ∧ (2 ≤ k → sizeD d (poolD 2) ≠ 0) })
    (fun k => [(0, .ptr 0 0), (5, i64 (k.1 : Int))]) (fun _ => dOwn d) (fun k => 2 - k.1) ⟨0, by omega⟩ ?_ ?_
  · refine Red.sub ?_
    simp only [go_sem, seval]
  · rintro ⟨k, hk, h1, h2⟩
    by_cases hlt : k < 2
    · have hlt' : (k : Int) < 2 := by omega
      have e1 : IntKind.i64.wrap ((k : Int) + 1) = ((k + 1 : Nat) : Int) := by rw [i64_in] <;> omega
      simp only [go_sem, seval, hlt', e1]
      refine cg_frame (pool_fun ((k + 1 : Nat) : Int)) [] rfl trivial rfl ?_
      rintro sv own' ⟨rfl, rfl⟩
      refine ⟨Nat.le_refl _, ?_⟩
      simp only [go_sem, seval]
      refine cg_all (size_fun d (poolD ((k + 1 : Nat) : Int))) ?_
      rintro sv own' ⟨rfl, rfl⟩
      by_cases h0 : sizeD d (poolD ((k + 1 : Nat) : Int)) = 0
      · simp only [go_sem, seval, h0, Tryd.results60]
        refine hE _ _ ⟨?_, rfl⟩
        have : k = 0 ∨ k = 1 := by omega
        rcases this with rfl | rfl
        · have h0' : sizeD d (poolD 1) = 0 := h0
          simp [unusedD, h0']
        · have h0' : sizeD d (poolD 2) = 0 := h0
          have h1' := h1 (by omega)
          simp [unusedD, h0', h1']
      · simp only [go_sem, seval, h0, e1]
        refine ⟨⟨k + 1, by omega, ?_, ?_⟩, by simp only; omega, Red.sub ?_⟩
        · intro _
          by_cases hk0 : k = 0
          · subst hk0; exact h0
          · exact h1 (by omega)
        · intro _
          have : k = 1 := by omega
          subst this; exact h0
        · simp only [go_sem, seval]
    · have hge : ¬ (k : Int) < 2 := by omega
      simp only [go_sem, seval, hge, Tryd.results60]
      refine hE _ _ ⟨?_, rfl⟩
      have h1' := h1 (by omega)
      have h2' := h2 (by omega)
      simp [unusedD, h1', h2', str]

def takeD (d : DiskD) : DiskD × List UInt8 × Int :=
  if mayE d ≠ 0 then (d, [], mayE d) else if inD d (poolD 1) then (d, poolD 1, 0) else if inD d (poolD 2) then (d, poolD 2, 0)
  else if unusedD d = [] then (d, [], 6) else if (makeO d (unusedD d) 17).2 ≠ 0 then ((makeO d (unusedD d) 17).1, [], (makeO d (unusedD d) 17).2) else ((makeO d (unusedD d) 17).1, unusedD d, 0)
theorem unusedD_len (d : DiskD) : (unusedD d).length < 2 ^ 62 := by
  unfold unusedD
  split
  · exact poolD_len 1 (by omega)
  · split
    · exact poolD_len 2 (by omega)
    · decide
theorem take_fun (hS : SortOK Tryd.prog 71) (d : DiskD) (hw : WFD d) :
    Fun Tryd.prog GH 35 [.ptr 0 0] (dOwn d) (fun sv own' => sv = .tup [str (takeD d).2.1, i64 (takeD d).2.2] ∧ own' = dOwn (takeD d).1) := by
  refine fun_of_vcQ (D := fun _ => none) Tryd.func35 (rfl : Tryd.f35.body = some _) (by kernel_rfl) (by kernel_rfl) (by simp [Tryd.f35]) (by kernel_rfl) ?_; intro Q hE hQ
  simp only [go_sem, seval]
  refine cg_all (pup_fun d) ?_
  rintro sv own' ⟨rfl, rfl⟩
  by_cases h0 : mayE d = 0
  · simp only [go_sem, seval, h0]
    refine loop_rule (A := { k : Nat // k ≤ 2 ∧ (1 ≤ k → inD d (poolD 1) = false) ∧ (2 ≤ k → inD d (poolD 2) = false) })
      (fun k => [(0, .ptr 0 0), (14, i64 (k.1 : Int))]) (fun _ => dOwn d) (fun k => 2 - k.1) ⟨0, by omega⟩ ?_ ?_
    · refine Red.sub ?_
      simp only [go_sem, seval]
    · rintro ⟨k, hk, h1, h2⟩
      by_cases hlt : k < 2
      · have hlt' : (k : Int) < 2 := by omega
        have e1 : IntKind.i64.wrap ((k : Int) + 1) = ((k + 1 : Nat) : Int) := by rw [i64_in] <;> omega
        simp only [go_sem, seval, hlt', e1]
        refine cg_frame (pool_fun ((k + 1 : Nat) : Int)) [] rfl trivial rfl ?_
        rintro sv own' ⟨rfl, rfl⟩
        refine ⟨Nat.le_refl _, ?_⟩
        simp only [go_sem, seval]
        refine cg_all (in_fun d (poolD ((k + 1 : Nat) : Int)) (poolD_len (k + 1) (by omega))) ?_
        rintro sv own' ⟨rfl, rfl⟩
        cases hin : inD d (poolD ((k + 1 : Nat) : Int))
        · simp only [go_sem, seval, bl, e1]
          refine ⟨⟨k + 1, by omega, ?_, ?_⟩, by simp only; omega, Red.sub ?_⟩
          · intro _
            by_cases hk0 : k = 0
            · subst hk0; exact hin
            · exact h1 (by omega)
          · intro _
            have : k = 1 := by omega
            subst this; exact hin
          · simp only [go_sem, seval]
        · simp only [go_sem, seval, bl, Tryd.results35]
          have : k = 0 ∨ k = 1 := by omega
          rcases this with rfl | rfl
          · have hin' : inD d (poolD 1) = true := hin
            refine hE _ _ ⟨?_, ?_⟩ <;> simp [takeD, h0, hin', i64]
          · have hin' : inD d (poolD 2) = true := hin
            have h1' := h1 (by omega)
            refine hE _ _ ⟨?_, ?_⟩ <;> simp [takeD, h0, hin', h1', i64]
      · have hge : ¬ (k : Int) < 2 := by omega
        have h1' := h1 (by omega)
        have h2' := h2 (by omega)
        simp only [go_sem, seval, hge]
        refine cg_all (unused_fun d) ?_
        rintro sv own' ⟨rfl, rfl⟩
        cases hu : (unusedD d == [])
        · have hu' : unusedD d ≠ [] := by simpa using hu
          simp only [go_sem, seval, str, empty_toList, str_toList, hu]
          refine cg_all (make_fun hS d hw (unusedD d) 17 (unusedD_len d)) ?_
          rintro sv own' ⟨rfl, rfl⟩
          by_cases hm : (makeO d (unusedD d) 17).2 = 0
          · simp only [go_sem, seval, hm, Tryd.results35]
            refine hE _ _ ⟨?_, ?_⟩ <;> simp [takeD, h0, h1', h2', hu', hm, i64, str]
          · simp only [go_sem, seval, hm, Tryd.results35]
            refine hE _ _ ⟨?_, ?_⟩ <;> simp [takeD, h0, h1', h2', hu', hm, i64, str]
        · have hu' : unusedD d = [] := by simpa using hu
          simp only [go_sem, seval, str, empty_toList, str_toList, hu, Tryd.results35]
          refine hE _ _ ⟨?_, ?_⟩ <;> simp [takeD, h0, h1', h2', hu', i64, str]
  · simp only [go_sem, seval, h0, Tryd.results35]
    refine hE _ _ ⟨?_, ?_⟩ <;> simp [takeD, h0, i64, str]
end Go.AM
namespace Go.AM
open Go Go.Proofs Go.IntWalk
set_option autoImplicit false
set_option maxRecDepth 100000

def segSecs (h : HdrD) : List (List UInt8) := hdrE h :: List.replicate 16 zSec
def prepD (d : DiskD) (s : List UInt8) (h : HdrD) : DiskD × Int :=
  if hdrRight h = false then (d, 13) else if mayE d ≠ 0 then (d, mayE d) else if sizeD d s = 0 then (d, 7) else if sizeD d s ≠ 17 then (d, 4)
  else if (writeD d s 0 (segSecs h)).2 ≠ 0 then writeD d s 0 (segSecs h) else syncD (writeD d s 0 (segSecs h)).1 s
theorem prep_fun (d : DiskD) (hw : WFD d) (s : List UInt8) (h : HdrD) :
    Fun Tryd.prog GH 37 [.ptr 0 0, str s, .agg (hdrC h), .v (.slice none 0 0)] (dOwn d) (fun sv own' => sv = i64 (prepD d s h).2 ∧ own' = dOwn (prepD d s h).1) := by
  refine fun_of_vcQ (D := fun _ => none) Tryd.func37 (rfl : Tryd.f37.body = some _) (by kernel_rfl) (by kernel_rfl) (by simp [Tryd.f37]) (by kernel_rfl) ?_; intro Q hE hQ
  simp only [go_sem, seval, hdrC, dOwn]
  refine cg_frame (hdrEncode_fun h) [] rfl trivial rfl ?_
  rintro sv own' ⟨rfl, rfl⟩
  refine ⟨Nat.le_refl _, ?_⟩
  cases hr : hdrRight h
  · have he : encSV h = .tup [.agg (secRow zSecD), i64 13] := by rw [encSV, hr]; rfl
    have n1 : zSecD.length = 64 := rfl
    rw [he]
    generalize zSecD = S at n1 ⊢
    have l2 : (secRow S).length = 64 := by rw [secRow_length, n1]
    have k2 := take_sec n1
    have hsp : ∀ cs : List SV, cs.length = 64 → splice cs 0 (secRow S) = secRow S := fun cs hc => splice_sec n1 hc
    simp only [go_sem, seval, dOwn, l2, k2, hsp, Tryd.results37]
    refine hQ _ _ (i64 13) (dOwn d) (red_two rfl rfl rfl) ⟨?_, ?_⟩ <;> simp [prepD, hr]
  · have he : encSV h = .tup [.agg (secRow (hdrE h)), i64 0] := by rw [encSV, hr]; rfl
    rw [he]
    have n1 := hdrE_length h
    have hp : segSecs h = hdrE h :: List.replicate 16 zSec := rfl
    generalize hdrE h = S at n1 hp ⊢
    have l2 : (secRow S).length = 64 := by rw [secRow_length, n1]
    have k2 := take_sec n1
    have hsp : ∀ cs : List SV, cs.length = 64 → splice cs 0 (secRow S) = secRow S := fun cs hc => splice_sec n1 hc
    simp only [go_sem, seval, dOwn, l2, k2, hsp]
    refine cg_frame (sup_fun d) [0, 1] rfl ?_ rfl ?_
    · simp only [go_sem, seval, dOwn]; try trivial
    rintro sv own' ⟨rfl, rfl⟩
    refine ⟨Nat.le_refl _, ?_⟩
    by_cases h0 : mayE d = 0
    · simp only [go_sem, seval, dOwn, h0]
      refine cg_frame (size_fun d s) [0, 1] rfl ?_ rfl ?_
      · simp only [go_sem, seval, dOwn]; try trivial
      rintro sv own' ⟨rfl, rfl⟩
      refine ⟨Nat.le_refl _, ?_⟩
      by_cases hz : sizeD d s = 0
      · simp only [go_sem, seval, dOwn, hz, Tryd.results37]
        refine hQ _ _ (i64 7) (dOwn d) (red_two rfl rfl rfl) ⟨?_, ?_⟩ <;> simp [prepD, hr, h0, hz]
      · by_cases h17 : sizeD d s = 17
        · have z17 : (17 : Int).toNat = 17 := rfl
          have hne : ¬ (17 : Int) = 0 := by decide
          simp only [go_sem, seval, dOwn, h17, hne, z17, l2, k2, -List.reduceReplicate]
          have hz17 : (List.replicate 17 (List.replicate 64 (SV.v (.int .u8 0)))) = secs (zSec :: List.replicate 16 zSec) := by
            simp [secs, secRow, zSec, b8]
          have hl17 : (secs (zSec :: List.replicate 16 zSec)).length = 17 := by simp [secs]
          have hg17 : (secs (zSec :: List.replicate 16 zSec)).set 0 (secRow S) = secs (segSecs h) := by rw [hp]; rfl
          have hl17' : (secs (segSecs h)).length = 17 := by rw [hp]; simp [secs]
          rw [hz17]
          have hr0 : (secs (zSec :: List.replicate 16 zSec))[0]? = some (secRow zSec) := rfl
          have lz : (secRow zSec).length = 64 := rfl
          simp only [go_sem, seval, hl17, hl17', hg17, hr0, lz, mx64_eq, l2, k2, hsp, secRow_clean, -List.reduceReplicate]
          have hcp : List.take 1 (secs (segSecs h)) ++ List.drop (1 + min 16 0) (secs (segSecs h)) = secs (segSecs h) := List.take_append_drop 1 _
          rw [hcp]
          refine cg_freeze (i := 4) rfl ?_
          refine cg_frame (args := [.ptr 0 0, str s, i64 0, .fsl 64 (secs (segSecs h)) false]) (write_fun d s 0 (segSecs h) false (hw.2 s) (by rw [hp]; simp)) [0, 1] rfl ?_ rfl ?_
          · simp only [go_sem, seval, dOwn]; try trivial
          rintro sv own' ⟨rfl, rfl⟩
          refine ⟨Nat.le_refl _, ?_⟩
          have hw2 := write_wf s 0 (segSecs h) hw
          by_cases he2 : (writeD d s 0 (segSecs h)).2 = 0
          · simp only [go_sem, seval, dOwn, he2]
            refine cg_frame (sync_fun (writeD d s 0 (segSecs h)).1 s (hw2.2 s)) [0, 1] rfl ?_ rfl ?_
            · simp only [go_sem, seval, dOwn]; try trivial
            rintro sv own' ⟨rfl, rfl⟩
            refine ⟨Nat.le_refl _, ?_⟩
            simp only [go_sem, seval, dOwn, Tryd.results37]
            refine hQ _ _ (i64 (syncD (writeD d s 0 (segSecs h)).1 s).2) (dOwn (syncD (writeD d s 0 (segSecs h)).1 s).1) (red_two rfl rfl rfl) ⟨?_, ?_⟩ <;> simp [prepD, hr, h0, h17, he2]
          · simp only [go_sem, seval, dOwn, he2, Tryd.results37]
            refine hQ _ _ (i64 (writeD d s 0 (segSecs h)).2) (dOwn (writeD d s 0 (segSecs h)).1) (red_two rfl rfl rfl) ⟨?_, ?_⟩ <;> simp [prepD, hr, h0, h17, he2]
        · simp only [go_sem, seval, dOwn, hz, h17, Tryd.results37]
          refine hQ _ _ (i64 4) (dOwn d) (red_two rfl rfl rfl) ⟨?_, ?_⟩ <;> simp [prepD, hr, h0, hz, h17]
    · simp only [go_sem, seval, dOwn, h0, Tryd.results37]
      refine hQ _ _ (i64 (mayE d)) (dOwn d) (red_two rfl rfl rfl) ⟨?_, ?_⟩ <;> simp [prepD, hr, h0]
end Go.AM
namespace Go.AM
open Go Go.Proofs Go.IntWalk
set_option autoImplicit false
set_option maxRecDepth 100000

def bOwn (d : DiskD) (h : HdrD) (e : Int) (live s : List UInt8) (c : Int) : List SO :=
  [dCells 1 d, fmap d.files, .cells 37 [.ptr 0 0], .cells 35 (hdrC h), .cells 25 [i64 e], .cells 9 [str live], .cells 9 [str s],
    .cells 75 [i64 c], .cells 73 [.ptr 7 0]]
theorem begin1_fun (d : DiskD) (h : HdrD) (e : Int) (live s : List UInt8) (c : Int) :
    FunD Tryd.prog GH 32 [.ptr 8 0, .ptr 4 0] (bOwn d h e live s c) (fun _ own' => own' = bOwn d h c live s c) := by
  refine funD_of_vcQ (D := fun _ => none) Tryd.func32 (rfl : Tryd.f32.body = some _) (by kernel_rfl) (by kernel_rfl) (by simp [Tryd.f32]) (by kernel_rfl) ?_; intro Q hE hQ
  simp only [go_sem, seval, bOwn, Tryd.results32]
  exact hE _ _ rfl
theorem begin2_fun (hS : SortOK Tryd.prog 71) (d : DiskD) (hw : WFD d) (h : HdrD) (e : Int) (live s : List UInt8) (c : Int) :
    Fun Tryd.prog GH 34 [.ptr 2 0, .ptr 6 0] (bOwn d h e live s c) (fun sv own' => sv = i64 (takeD d).2.2 ∧ own' = bOwn (takeD d).1 h e live (takeD d).2.1 c) := by
  refine fun_of_vcQ (D := fun _ => none) Tryd.func34 (rfl : Tryd.f34.body = some _) (by kernel_rfl) (by kernel_rfl) (by simp [Tryd.f34]) (by kernel_rfl) ?_; intro Q hE hQ
  simp only [go_sem, seval, bOwn]
  refine cg_frame (take_fun hS d hw) [0, 1] rfl ?_ rfl ?_
  · simp only [go_sem, seval, dOwn]; try trivial
  rintro sv own' ⟨rfl, rfl⟩
  refine ⟨Nat.le_refl _, ?_⟩
  simp only [go_sem, seval, dOwn, Tryd.results34]
  exact hE _ _ ⟨rfl, rfl⟩
theorem begin3_fun (d : DiskD) (hw : WFD d) (h : HdrD) (e : Int) (live s : List UInt8) (c : Int) :
    Fun Tryd.prog GH 36 [.ptr 2 0, .ptr 6 0, .ptr 3 0] (bOwn d h e live s c) (fun sv own' => sv = i64 (prepD d s h).2 ∧ own' = bOwn (prepD d s h).1 h e live s c) := by
  refine fun_of_vcQ (D := fun _ => none) Tryd.func36 (rfl : Tryd.f36.body = some _) (by kernel_rfl) (by kernel_rfl) (by simp [Tryd.f36]) (by kernel_rfl) ?_; intro Q hE hQ
  simp only [go_sem, seval, bOwn, hdrC]
  refine cg_frame (prep_fun d hw s h) [0, 1] rfl ?_ rfl ?_
  · simp only [go_sem, seval, dOwn]; try trivial
  rintro sv own' ⟨rfl, rfl⟩
  refine ⟨Nat.le_refl _, ?_⟩
  simp only [go_sem, seval, dOwn, Tryd.results36]
  exact hE _ _ ⟨rfl, rfl⟩
theorem begin4_fun (d : DiskD) (h : HdrD) (e : Int) (live s : List UInt8) (hl : live.length < 2 ^ 62) (c : Int) :
    Fun Tryd.prog GH 38 [.ptr 2 0, .ptr 6 0, .ptr 5 0] (bOwn d h e live s c) (fun sv own' => sv = i64 (renameD d s live).2 ∧ own' = bOwn (renameD d s live).1 h e live s c) := by
  refine fun_of_vcQ (D := fun _ => none) Tryd.func38 (rfl : Tryd.f38.body = some _) (by kernel_rfl) (by kernel_rfl) (by simp [Tryd.f38]) (by kernel_rfl) ?_; intro Q hE hQ
  simp only [go_sem, seval, bOwn]
  refine cg_frame (rename_fun d s live hl) [0, 1] rfl ?_ rfl ?_
  · simp only [go_sem, seval, dOwn]; try trivial
  rintro sv own' ⟨rfl, rfl⟩
  refine ⟨Nat.le_refl _, ?_⟩
  simp only [go_sem, seval, dOwn, Tryd.results38]
  exact hE _ _ ⟨rfl, rfl⟩
theorem bthen_fun (d : DiskD) (h : HdrD) (e : Int) (live s : List UInt8) (c : Int) (f : FuncId) (caps : List SV) (r : Int) (d2 : DiskD) (s2 : List UInt8)
    (hf : c = 0 → Fun Tryd.prog GH f caps (bOwn d h e live s 0) (fun sv own' => sv = i64 r ∧ own' = bOwn d2 h e live s2 0)) :
    Fun Tryd.prog GH 33 [.ptr 7 0, .fn f [] caps] (bOwn d h e live s c) (fun _ own' => own' = if c = 0 then bOwn d2 h e live s2 r else bOwn d h e live s c) := by
  refine fun_of_vcQ (D := fun _ => none) Tryd.func33 (rfl : Tryd.f33.body = some _) (by kernel_rfl) (by kernel_rfl) (by simp [Tryd.f33]) (by kernel_rfl) ?_; intro Q hE hQ
  by_cases hc : c = 0
  · subst hc
    rw [if_pos rfl] at hE hQ
    have hf0 := hf rfl
    simp only [go_sem, seval, bOwn] at hf0 hE ⊢
    refine cg_all (by simpa using hf0) ?_
    rintro sv own' ⟨rfl, rfl⟩
    simp only [go_sem, seval, Tryd.results33]
    exact hE _
  · rw [if_neg hc] at hE hQ
    simp only [go_sem, seval, bOwn, hc, Tryd.results33] at hE ⊢
    exact hE _

def stepD (r : DiskD × Int) (k : DiskD → DiskD × Int) : DiskD × Int := if r.2 = 0 then k r.1 else r
theorem bstep_fun (d : DiskD) (h : HdrD) (e : Int) (live s : List UInt8) (c : Int) (f : FuncId) (caps : List SV) (k : DiskD → DiskD × Int)
    (hf : Fun Tryd.prog GH f caps (bOwn d h e live s 0) (fun sv own' => sv = i64 (k d).2 ∧ own' = bOwn (k d).1 h e live s 0)) :
    Fun Tryd.prog GH 33 [.ptr 7 0, .fn f [] caps] (bOwn d h e live s c) (fun _ own' => own' = bOwn (stepD (d, c) k).1 h e live s (stepD (d, c) k).2) := by
  refine (bthen_fun d h e live s c f caps _ _ _ (fun _ => hf)).mono ?_
  rintro sv own' rfl
  unfold stepD
  by_cases hc : c = 0 <;> simp [hc]
theorem bthen0_fun (d : DiskD) (h : HdrD) (e : Int) (live s : List UInt8) (f : FuncId) (caps : List SV) (r : Int) (d2 : DiskD) (s2 : List UInt8)
    (hf : Fun Tryd.prog GH f caps (bOwn d h e live s 0) (fun sv own' => sv = i64 r ∧ own' = bOwn d2 h e live s2 0)) :
    Fun Tryd.prog GH 33 [.ptr 7 0, .fn f [] caps] (bOwn d h e live s 0) (fun _ own' => own' = bOwn d2 h e live s2 r) := by
  refine (bthen_fun d h e live s 0 f caps _ _ _ (fun _ => hf)).mono ?_
  rintro sv own' rfl
  rw [if_pos rfl]
def beginD (d : DiskD) (h : HdrD) : DiskD × Int :=
  if hdrRight h = false then (d, 13) else if mayE d ≠ 0 then (d, mayE d) else if 0 < sizeD d (walD h.seq) then (d, 8)
  else stepD (stepD ((takeD d).1, (takeD d).2.2) fun d' => prepD d' (takeD d).2.1 h) fun d' => renameD d' (takeD d).2.1 (walD h.seq)
theorem take_wf {d : DiskD} (hw : WFD d) : WFD (takeD d).1 := by
  unfold takeD
  have := make_wf (unusedD d) 17 hw
  repeat' split
  all_goals first | exact hw | exact this
theorem segBegin_fun (hS : SortOK Tryd.prog 71) (d : DiskD) (hw : WFD d) (h : HdrD) (hl : (walD h.seq).length < 2 ^ 62) :
    Fun Tryd.prog GH 14 [.ptr 0 0, .agg (hdrC h)] (dOwn d) (fun sv own' => sv = i64 (beginD d h).2 ∧ own' = dOwn (beginD d h).1) := by
  refine fun_of_vcQR (D := fun _ => none) (dr := fun n => n == 11) Tryd.func14 (rfl : Tryd.f14.body = some _) (by kernel_rfl) (by kernel_rfl) (by simp [Tryd.f14]) (by kernel_rfl) ?_; intro Q hE hQ
  simp only [go_sem, seval, dOwn, hdrC]
  refine cg_frame (hdrRight_fun h) [] rfl trivial rfl ?_
  rintro sv own' ⟨rfl, rfl⟩
  refine ⟨Nat.le_refl _, ?_⟩
  cases hr : hdrRight h
  · simp only [go_sem, seval, bl, Tryd.results14]
    refine hQ _ _ (i64 13) (dOwn d) (red_two rfl rfl rfl) ⟨?_, ?_⟩ <;> simp [beginD, hr]
  · simp only [go_sem, seval, bl]
    refine cg_frame (sup_fun d) [0, 1] rfl ?_ rfl ?_
    · simp only [go_sem, seval, dOwn]; try trivial
    rintro sv own' ⟨rfl, rfl⟩
    refine ⟨Nat.le_refl _, ?_⟩
    by_cases h0 : mayE d = 0
    · simp only [go_sem, seval, dOwn, h0]
      refine cg_frame (wal_fun h.seq) [] rfl trivial rfl ?_
      rintro sv own' ⟨rfl, rfl⟩
      refine ⟨Nat.le_refl _, ?_⟩
      simp only [go_sem, seval, dOwn]
      refine cg_frame (size_fun d (walD h.seq)) [0, 1] rfl ?_ rfl ?_
      · simp only [go_sem, seval, dOwn]; try trivial
      rintro sv own' ⟨rfl, rfl⟩
      refine ⟨Nat.le_refl _, ?_⟩
      by_cases hz : 0 < sizeD d (walD h.seq)
      · simp only [go_sem, seval, dOwn, hz, Tryd.results14]
        refine hQ _ _ (i64 8) (dOwn d) (red_two rfl rfl rfl) ⟨?_, ?_⟩ <;> simp [beginD, hr, h0, hz]
      · simp only [go_sem, seval, dOwn, hz]
        refine defer_rule (pre := [_]) 9 rfl rfl rfl rfl rfl rfl (by decide) rfl ?_
        simp only [go_sem, seval, vdefer]
        refine ⟨by kernel_rfl, rfl, ?_⟩
        refine cg_all (bthen0_fun d h 0 (walD h.seq) [] _ _ _ _ _ (begin2_fun hS d hw h 0 (walD h.seq) [] 0)) ?_
        rintro sv own' rfl
        have hw1 := take_wf hw
        generalize hd1 : (takeD d).1 = d1 at hw1
        generalize hc1 : (takeD d).2.2 = c1
        generalize hs1 : (takeD d).2.1 = s1
        simp only [go_sem, seval, bOwn]
        refine cg_all (bstep_fun d1 h 0 (walD h.seq) s1 c1 _ _ (fun d' => prepD d' s1 h) (begin3_fun d1 hw1 h 0 (walD h.seq) s1 0)) ?_
        rintro sv own' rfl
        generalize hd2 : (stepD (d1, c1) fun d' => prepD d' s1 h).1 = d2
        generalize hc2 : (stepD (d1, c1) fun d' => prepD d' s1 h).2 = c2
        simp only [go_sem, seval, bOwn]
        refine cg_all (bstep_fun d2 h 0 (walD h.seq) s1 c2 _ _ (fun d' => renameD d' s1 (walD h.seq)) (begin4_fun d2 h 0 (walD h.seq) s1 hl 0)) ?_
        rintro sv own' rfl
        generalize hd3 : (stepD (d2, c2) fun d' => renameD d' s1 (walD h.seq)).1 = d3
        generalize hc3 : (stepD (d2, c2) fun d' => renameD d' s1 (walD h.seq)).2 = c3
        simp only [go_sem, seval, bOwn]
        refine cgd_all (begin1_fun d3 h c3 (walD h.seq) s1 c3) ?_
        rintro sv own' rfl
        simp only [go_sem, seval, bOwn, Tryd.results14]
        have hb : beginD d h = (d3, c3) := by
          have e2 : (stepD (d1, c1) fun d' => prepD d' s1 h) = (d2, c2) := by rw [← hd2, ← hc2]
          simp only [beginD, hr, h0, hz, hd1, hc1, hs1, e2, if_false, ne_eq, not_true_eq_false, Bool.true_eq_false]
          rw [← hd3, ← hc3]
        refine hQ _ _ (i64 (beginD d h).2) (dOwn (beginD d h).1) ?_ ⟨rfl, rfl⟩
        rw [hb]
        exact red_two rfl rfl rfl
    · simp only [go_sem, seval, dOwn, h0, Tryd.results14]
      refine hQ _ _ (i64 (mayE d)) (dOwn d) (red_two rfl rfl rfl) ⟨?_, ?_⟩ <;> simp [beginD, hr, h0]
end Go.AM
namespace Go.AM
open Go Go.Proofs Go.IntWalk
set_option autoImplicit false
set_option maxRecDepth 100000

theorem rNear_fun (x : Int) : Fun Tryd.prog GH 54 [i64 x] [] (fun sv own' => sv = i64 (clampAt x) ∧ own' = []) := by
  refine fun_of_vcQ (D := fun _ => none) Tryd.func54 (rfl : Tryd.f54.body = some _) (by kernel_rfl) (by kernel_rfl) (by simp [Tryd.f54]) (by kernel_rfl) ?_; intro Q hE hQ
  by_cases h1 : x < 0
  · simp only [go_sem, seval, h1, Tryd.results54]
    exact hE _ _ ⟨by rw [show clampAt x = 0 by unfold clampAt; omega]; rfl, rfl⟩
  · by_cases h2 : 832 < x
    · simp only [go_sem, seval, h1, h2, Tryd.results54]
      exact hE _ _ ⟨by rw [show clampAt x = 832 by unfold clampAt; omega]; rfl, rfl⟩
    · simp only [go_sem, seval, h1, h2, Tryd.results54]
      exact hE _ _ ⟨by rw [show clampAt x = x by unfold clampAt; omega]; rfl, rfl⟩
theorem rWhere_fun (x : Int) : Fun Tryd.prog GH 55 [i64 x] [] (fun sv own' => sv = .tup [i64 (clampAt x / 52), i64 (clampAt x % 52)] ∧ own' = []) := by
  refine fun_of_vcQ (D := fun _ => none) Tryd.func55 (rfl : Tryd.f55.body = some _) (by kernel_rfl) (by kernel_rfl) (by simp [Tryd.f55]) (by kernel_rfl) ?_; intro Q hE hQ
  have hc := clamp_le x
  simp only [go_sem, seval]
  refine loop_rule (A := { k : Nat // (k : Int) ≤ clampAt x })
    (fun k => [(0, i64 x), (4, i64 ((k.1 / 52 : Nat) : Int)), (5, i64 ((k.1 % 52 : Nat) : Int)), (6, i64 (k.1 : Int))]) (fun _ => []) (fun k => (clampAt x).toNat - k.1) ⟨0, by simpa using hc.1⟩ ?_ ?_
  · refine Red.sub ?_
    simp only [go_sem, seval]
  · rintro ⟨k, hk⟩
    simp only [go_sem, seval]
    refine cg_frame (rNear_fun x) [] rfl trivial rfl ?_
    rintro sv own' ⟨rfl, rfl⟩
    refine ⟨Nat.le_refl _, ?_⟩
    have e1 : IntKind.i64.wrap ((k : Int) + 1) = ((k + 1 : Nat) : Int) := by rw [i64_in] <;> omega
    have e2 : IntKind.i64.wrap (((k % 52 : Nat) : Int) + 1) = ((k % 52 + 1 : Nat) : Int) := by rw [i64_in] <;> omega
    have e3 : IntKind.i64.wrap (((k / 52 : Nat) : Int) + 1) = ((k / 52 + 1 : Nat) : Int) := by rw [i64_in] <;> omega
    by_cases hlt : (k : Int) < clampAt x
    · by_cases h52 : ((k % 52 + 1 : Nat) : Int) = 52
      · simp only [go_sem, seval, hlt, e1, e2, e3, h52]
        refine ⟨⟨k + 1, by omega⟩, by simp only; omega, ?_⟩
        have q1 : (k + 1) / 52 = k / 52 + 1 := by omega
        have q2 : (k + 1) % 52 = 0 := by omega
        rw [q1, q2]
        refine Red.sub ?_
        simp only [go_sem, seval]; try trivial
      · simp only [go_sem, seval, hlt, e1, e2, e3, h52]
        refine ⟨⟨k + 1, by omega⟩, by simp only; omega, ?_⟩
        have q1 : (k + 1) / 52 = k / 52 := by omega
        have q2 : (k + 1) % 52 = k % 52 + 1 := by omega
        rw [q1, q2]
        refine Red.sub ?_
        simp only [go_sem, seval]
    · simp only [go_sem, seval, hlt, Tryd.results55]
      have q : clampAt x = (k : Int) := by omega
      exact hE _ _ ⟨by rw [q]; simp [i64], rfl⟩
theorem rBegin_fun (x : Int) : Fun Tryd.prog GH 27 [i64 x] [] (fun sv own' => sv = i64 (spanBegin x) ∧ own' = []) := by
  refine fun_of_vcQ (D := fun _ => none) Tryd.func27 (rfl : Tryd.f27.body = some _) (by kernel_rfl) (by kernel_rfl) (by simp [Tryd.f27]) (by kernel_rfl) ?_; intro Q hE hQ
  have hc := clamp_le x
  simp only [go_sem, seval]
  refine cg_frame (rNear_fun x) [] rfl trivial rfl ?_
  rintro sv own' ⟨rfl, rfl⟩
  refine ⟨Nat.le_refl _, ?_⟩
  simp only [go_sem, seval]
  refine cg_frame (rWhere_fun (clampAt x)) [] rfl trivial rfl ?_
  rintro sv own' ⟨rfl, rfl⟩
  refine ⟨Nat.le_refl _, ?_⟩
  simp only [go_sem, seval, clamp_clamp]
  refine loop_rule (A := { j : Nat // (0 < j → 41 < clampAt x % 52) ∧ clampAt x % 52 + j ≤ 52 })
    (fun j => [(0, i64 (clampAt x + j.1)), (4, i64 (clampAt x % 52 + j.1))]) (fun _ => []) (fun j => 52 - j.1) ⟨0, by omega, by omega⟩ ?_ ?_
  · refine Red.sub ?_
    simp only [go_sem, seval, Int.natCast_zero, Int.add_zero]; try trivial
  · rintro ⟨j, hj, hj2⟩
    have e1 : IntKind.i64.wrap (clampAt x + (j : Int) + 1) = clampAt x + ((j + 1 : Nat) : Int) := by rw [i64_in] <;> omega
    have e2 : IntKind.i64.wrap (clampAt x % 52 + (j : Int) + 1) = clampAt x % 52 + ((j + 1 : Nat) : Int) := by rw [i64_in] <;> omega
    by_cases h1 : clampAt x + (j : Int) < 832 <;> by_cases h2 : 41 < clampAt x % 52 + (j : Int) <;> by_cases h3 : clampAt x % 52 + (j : Int) < 52
    case' pos => skip
    all_goals simp only [go_sem, seval, h1, h2, h3, e1, e2, Tryd.results27]
    all_goals first
      | (refine ⟨⟨j + 1, by omega, by omega⟩, by simp only; omega, Red.sub ?_⟩
         simp only [go_sem, seval]; done)
      | (refine hE _ _ ⟨?_, rfl⟩
         rw [spanBegin]; split <;> (congr 2; omega))
      | skip
theorem rLeft_fun (x : Int) : Fun Tryd.prog GH 28 [i64 x] [] (fun sv own' => sv = i64 (spanLeft x) ∧ own' = []) := by
  refine fun_of_vcQ (D := fun _ => none) Tryd.func28 (rfl : Tryd.f28.body = some _) (by kernel_rfl) (by kernel_rfl) (by simp [Tryd.f28]) (by kernel_rfl) ?_; intro Q hE hQ
  have hc := clamp_le x
  simp only [go_sem, seval]
  refine cg_frame (rNear_fun x) [] rfl trivial rfl ?_
  rintro sv own' ⟨rfl, rfl⟩
  refine ⟨Nat.le_refl _, ?_⟩
  simp only [go_sem, seval]
  refine loop_rule (A := { j : Nat // (0 < j → clampAt x % 208 + j ≤ 208) ∧ clampAt x + j ≤ 832 })
    (fun j => [(0, i64 (clampAt x + j.1)), (3, i64 (j.1 : Int))]) (fun _ => []) (fun j => 208 - j.1) ⟨0, by omega, by omega⟩ ?_ ?_
  · refine Red.sub ?_
    simp only [go_sem, seval, Int.natCast_zero, Int.add_zero]; try trivial
  · rintro ⟨j, hj, hj2⟩
    have e1 : IntKind.i64.wrap (clampAt x + (j : Int) + 1) = clampAt x + ((j + 1 : Nat) : Int) := by rw [i64_in] <;> omega
    have e2 : IntKind.i64.wrap ((j : Int) + 1) = ((j + 1 : Nat) : Int) := by rw [i64_in] <;> omega
    have e3 : (clampAt x + (j : Int)).tmod 208 = (clampAt x + (j : Int)) % 208 := Int.tmod_eq_emod_of_nonneg (by omega)
    rcases Nat.eq_zero_or_pos j with rfl | hjp
    · have e1' : IntKind.i64.wrap (clampAt x + 1) = clampAt x + ((0 + 1 : Nat) : Int) := by rw [i64_in] <;> omega
      have e2' : IntKind.i64.wrap 1 = ((0 + 1 : Nat) : Int) := by rw [i64_in] <;> omega
      by_cases h1 : clampAt x < 832
      · simp only [go_sem, seval, h1, Int.natCast_zero, Int.add_zero, e1', e2']
        refine ⟨⟨0 + 1, by omega, by omega⟩, by simp only; omega, Red.sub ?_⟩
        simp only [go_sem, seval]
      · simp only [go_sem, seval, h1, Int.natCast_zero, Int.add_zero, Tryd.results28]
        refine hE _ _ ⟨?_, rfl⟩
        rw [spanLeft, if_pos (by omega)]; rfl
    · have h2 : ¬ (j : Int) = 0 := by omega
      by_cases h1 : clampAt x + (j : Int) < 832 <;> by_cases h3 : (clampAt x + (j : Int)) % 208 = 0
      all_goals simp only [go_sem, seval, h1, h2, h3, e1, e2, e3, Tryd.results28]
      all_goals first
        | (refine ⟨⟨j + 1, by omega, by omega⟩, by simp only; omega, Red.sub ?_⟩
           simp only [go_sem, seval]; done)
        | (refine hE _ _ ⟨?_, rfl⟩
           rw [spanLeft]; split <;> (congr 2; omega))
        | skip
end Go.AM
namespace Go.AM
open Go Go.Proofs Go.IntWalk
set_option autoImplicit false
set_option maxRecDepth 100000

def k3 (l : List PieceD) : List PieceD := l.map fun p => { p with kind := 3 }
def kindsOk (n f : Int) (out : List PieceD) : Prop := ∀ i, ∀ h : i < out.length, out[i].kind = cutKind (i == 0) (decide (i + 1 = out.length ∧ f = n))
theorem begin_room (x : Int) : spanBegin x = 832 ∨ (spanBegin x < 832 ∧ 11 ≤ spanLeft (spanBegin x)) := by
  have h := clamp_le x
  unfold spanLeft
  have hb : 0 ≤ spanBegin x ∧ spanBegin x ≤ 832 ∧ (spanBegin x % 52 ≤ 41) := by
    unfold spanBegin; split <;> omega
  have : clampAt (spanBegin x) = spanBegin x := by unfold clampAt; omega
  rw [this]
  by_cases h8 : spanBegin x = 832
  · exact .inl h8
  · right
    rw [if_neg h8]
    omega
theorem k3_append (l : List PieceD) (p : PieceD) : k3 (l ++ [p]) = k3 l ++ [{ p with kind := 3 }] := by simp [k3]
theorem kinds_step {n f to : Int} {out : List PieceD} {p : PieceD} (hk : kindsOk n f out) (hc : out.isEmpty = true ∨ f < n) (hp : p.kind = cutKind out.isEmpty (decide (to = n))) : kindsOk n to (out ++ [p]) := by
  intro i hi
  rw [List.length_append, List.length_singleton] at hi
  by_cases h : i < out.length
  · rw [List.getElem_append_left h, hk i h]
    have e1 : ¬ (i + 1 = out.length ∧ f = n) := by
      rintro ⟨h1, h2⟩
      rcases hc with h3 | h3
      · have : out = [] := by simpa using h3
        rw [this] at h; simp at h
      · omega
    have e2 : ¬ (i + 1 = (out ++ [p]).length ∧ to = n) := by
      rintro ⟨h1, _⟩
      rw [List.length_append, List.length_singleton] at h1; omega
    rw [decide_eq_false e1, decide_eq_false e2]
  · have hi' : i = out.length := by omega
    subst hi'
    rw [List.getElem_append_right (Nat.le_refl _)]
    simp only [Nat.sub_self, List.getElem_cons_zero]
    rw [hp]
    have e3 : out.isEmpty = (out.length == 0) := by cases out <;> rfl
    rw [e3]
    congr 1
    simp
def setK (l : List PieceD) (i : Nat) (k : Int) : List PieceD := l.modify i fun p => { p with kind := k }
theorem setK_length (l : List PieceD) (i : Nat) (k : Int) : (setK l i k).length = l.length := by simp [setK]
theorem setK_rows (l : List PieceD) (i : Nat) (k : Int) (h : i < l.length) : ∃ p, (pieces l)[i]? = some (pieceRow p) ∧ (pieces l).set i ((pieceRow p).set 1 (.v (.int .i64 k))) = pieces (setK l i k) := by
  refine ⟨l[i], by simp [pieces, h], ?_⟩
  have hs : (pieceRow l[i]).set 1 (.v (.int .i64 k)) = pieceRow { l[i] with kind := k } := rfl
  rw [hs]
  refine List.ext_getElem (by simp [pieces, setK]) fun j h1 h2 => ?_
  simp only [pieces, setK, List.getElem_set, List.getElem_map, List.getElem_modify]
  by_cases hij : i = j
  · subst hij; simp
  · simp [hij]
theorem kinds_end {n : Int} {out : List PieceD} {m : Nat} (hm : out.length = m + 1) (hk : kindsOk n n out) :
    (if m = 0 then setK (setK (setK (k3 out) 0 2) m 4) 0 1 else setK (setK (k3 out) 0 2) m 4) = out := by
  refine List.ext_getElem (by split <;> simp [setK, k3]) fun i h1 h2 => ?_
  have hki := hk i h2
  have he : out[i] = { out[i] with kind := out[i].kind } := rfl
  rw [he, hki]
  by_cases h0 : m = 0
  · have hi : i = 0 := by omega
    subst hi
    simp only [if_pos h0, setK, k3, List.getElem_modify, List.getElem_map]
    simp [hm, h0, cutKind]
  · simp only [if_neg h0, setK, k3, List.getElem_modify, List.getElem_map]
    have h3 : ¬ (0 = m) := fun h => h0 h.symm
    by_cases hi : i = 0
    · subst hi
      simp [hm, h0, h3, cutKind]
    · by_cases him : m = i
      · subst him
        simp [hm, hi, h3, cutKind]
      · have h4 : ¬ (0 = i) := by omega
        have h5 : ¬ (i = m) := by omega
        simp [hm, hi, him, h4, h5, cutKind]
theorem rcut_fun (at_ n : Int) (hn : n < 2 ^ 62) : Fun Tryd.prog GH 13 [i64 at_, i64 n] [] (fun sv own' => sv = cutSV (cutD at_ n) ∧ own' = []) := by
  refine fun_of_vcQ (D := fun _ => none) Tryd.func13 (rfl : Tryd.f13.body = some _) (by kernel_rfl) (by kernel_rfl) (by simp [Tryd.f13]) (by kernel_rfl) ?_; intro Q hE hQ
  by_cases h1 : n < 0
  · simp only [go_sem, seval, h1, Tryd.results13]
    exact hE _ _ ⟨by simp [cutD, h1, cutSV, i64, bl], rfl⟩
  · simp only [go_sem, seval, h1]
    refine loop_rule (A := { x : List PieceD × Int × Int // (0 ≤ x.2.2 ∧ x.2.2 ≤ n ∧ x.2.2 ≤ clampAt x.2.1) ∧ 11 * (x.1.length : Int) ≤ clampAt x.2.1 ∧ cutRun n at_ 0 [] = cutRun n x.2.1 x.2.2 x.1 ∧ kindsOk n x.2.2 x.1 })
      (fun x => [(0, i64 x.1.2.1), (1, i64 n), (7, .gs 0), (8, i64 x.1.2.2)])
      (fun x => [.grow 69 4 (pieces (k3 x.1.1))]) (fun x => (832 - clampAt x.1.2.1).toNat) ⟨([], at_, 0), ⟨by simp, by simp; omega, by have := clamp_le at_; simpa using this.1⟩, by have := clamp_le at_; simpa using this.1, rfl, by intro i h; simp at h⟩ ?_ ?_
    · refine Red.trans (Red.nil 7 69 4 (Nat.zero_le _) rfl) (Red.sub ?_)
      simp only [go_sem, seval]
    · rintro ⟨⟨out, a, f⟩, hf, hl, hrun, hk⟩
      simp only at hf hl hrun hk
      have hca := clamp_le a
      have hout : out.length < 1000 := by omega
      have hl3 : (pieces (k3 out)).length = out.length := by simp [pieces, k3]
      have hstep : (out.isEmpty = true ∨ f < n) → cutRun n at_ 0 [] = match cutStep n a f out.isEmpty with
          | none => none
          | some (p, a', f') => if h : clampAt a < clampAt a' then cutRun n a' f' (out ++ [p]) else none := by
        intro hc
        rw [hrun, cutRun, if_neg (by rintro ⟨h3, h4⟩; rcases hc with h | h; · rw [h] at h3; cases h3
                                     · exact h4 h)]
        rfl
      have hnone : (out.isEmpty = true ∨ f < n) → spanBegin a = 832 → cutD at_ n = none := by
        intro hc hb
        have hs : cutStep n a f out.isEmpty = none := by
          rw [cutStep, hb, if_pos (by decide)]
        unfold cutD; split
        · rfl
        · rw [hstep hc, hs]
      have hsome : ∀ k, (out.isEmpty = true ∨ f < n) → spanBegin a < 832 → k = min (n - f) (spanLeft (spanBegin a) - 11) →
          ∃ y : { x : List PieceD × Int × Int // (0 ≤ x.2.2 ∧ x.2.2 ≤ n ∧ x.2.2 ≤ clampAt x.2.1) ∧ 11 * (x.1.length : Int) ≤ clampAt x.2.1 ∧ cutRun n at_ 0 [] = cutRun n x.2.1 x.2.2 x.1 ∧ kindsOk n x.2.2 x.1 },
            (832 - clampAt y.1.2.1).toNat < (832 - clampAt a).toNat ∧ y.1.2.1 = spanBegin a + 11 + k ∧ y.1.2.2 = f + k ∧ pieces (k3 y.1.1) = pieces (k3 out) ++ [[i64 (spanBegin a), i64 3, i64 f, i64 (f + k)]] := by
        intro k hc hb hkk
        have hb2 := begin_room a
        have hto : min n (f + (spanLeft (spanBegin a) - 11)) = f + k := by omega
        have hs : cutStep n a f out.isEmpty = some (⟨spanBegin a, cutKind out.isEmpty (decide (f + k = n)), f, f + k⟩, spanBegin a + 11 + k, f + k) := by
          rw [cutStep, if_neg (by omega), hto]
          congr 3; omega
        have hg := cutStep_grows ⟨hf.1, hf.2.1⟩ hs
        have hbb := spanBegin_bound a
        have hca2 : clampAt (spanBegin a + 11 + k) = spanBegin a + 11 + k := by unfold clampAt; omega
        refine ⟨⟨(out ++ [⟨spanBegin a, cutKind out.isEmpty (decide (f + k = n)), f, f + k⟩], spanBegin a + 11 + k, f + k), ⟨by show 0 ≤ f + k; omega, by show f + k ≤ n; omega, by show f + k ≤ clampAt (spanBegin a + 11 + k); omega⟩, ?_, ?_, kinds_step hk hc rfl⟩, by simp only; omega, rfl, rfl, ?_⟩
        · simp only [List.length_append, List.length_singleton]; omega
        · rw [hstep hc, hs]
          simp only
          rw [dif_pos (by omega)]
        · rw [k3_append]; simp [pieces, pieceRow]
      have hlen1 : (pieces (k3 out)).length + 1 ≤ mx64 := by rw [hl3, mx64_eq]; omega
      have hbb := spanBegin_bound a
      have hbr := begin_room a
      have hll := spanLeft_bound (spanBegin a)
      have w1 : IntKind.i64.wrap (n - f) = n - f := i64_in _ (by omega)
      have w2 : IntKind.i64.wrap (spanLeft (spanBegin a) - 11) = spanLeft (spanBegin a) - 11 := i64_in _ (by omega)
      have w3 : IntKind.i64.wrap (spanBegin a + 11) = spanBegin a + 11 := i64_in _ (by omega)
      by_cases hdone : ¬ (out.length : Int) = 0 ∧ ¬ f < n
      · obtain ⟨hl0, hfn⟩ := hdone
        have hfn' : f = n := by omega
        subst hfn'
        obtain ⟨m, hm⟩ : ∃ m, out.length = m + 1 := ⟨out.length - 1, by omega⟩
        rw [hm] at hl3
        have hlk : (k3 out).length = m + 1 := by simp [k3, hm]
        obtain ⟨p1, f1, f2⟩ := setK_rows (k3 out) 0 2 (by omega)
        obtain ⟨p2, f3, f4⟩ := setK_rows (setK (k3 out) 0 2) m 4 (by rw [setK_length]; omega)
        obtain ⟨p3, f5, f6⟩ := setK_rows (setK (setK (k3 out) 0 2) m 4) 0 1 (by rw [setK_length, setK_length]; omega)
        have g1 : (pieces (setK (k3 out) 0 2)).length = m + 1 := by rw [pieces_length, setK_length, hlk]
        have g2 : (pieces (setK (setK (k3 out) 0 2) m 4)).length = m + 1 := by rw [pieces_length, setK_length, setK_length, hlk]
        have hm0 : ¬ ((m + 1 : Nat) : Int) = 0 := by omega
        have hm1 : (0 : Int) < ((m + 1 : Nat) : Int) := by omega
        have hm2 : IntKind.i64.wrap (((m + 1 : Nat) : Int) - 1) = (m : Int) := by rw [i64_in] <;> omega
        have hm3 : (0 : Int) ≤ (m : Int) := by omega
        have hm4 : (m : Int) < ((m + 1 : Nat) : Int) := by omega
        have hres : cutD at_ f = some (out, a) := by
          have hemp : out.isEmpty = false := by cases out <;> simp at hl0 ⊢
          unfold cutD
          rw [if_neg (by omega), hrun, cutRun, if_pos ⟨hemp, by omega⟩]
        have hend := kinds_end hm hk
        have pl : ∀ p : PieceD, (pieceRow p).length = 4 := fun _ => rfl
        simp only [go_sem, seval, hl3, hm0, hm1, hm2, hm3, hm4, hfn, f1, f2, f3, f4, g1, g2, pl, Int.toNat_natCast]
        by_cases h0 : m = 0
        · rw [if_pos h0] at hend
          have hq : ((m + 1 : Nat) : Int) = 1 := by omega
          simp only [go_sem, seval, hm1, hq, f5, f6, pl, g2, hend, Tryd.results13]
          refine hQ _ _ (cutSV (some (out, a))) [] ?_ ⟨by rw [hres], rfl⟩
          exact Red.trans (RedV.freeze (i := 0) rfl) (RedV.drop rfl)
        · rw [if_neg h0] at hend
          have hq : ¬ ((m + 1 : Nat) : Int) = 1 := by omega
          simp only [go_sem, seval, hq, hend, Tryd.results13]
          refine hQ _ _ (cutSV (some (out, a))) [] ?_ ⟨by rw [hres], rfl⟩
          exact Red.trans (RedV.freeze (i := 0) rfl) (RedV.drop rfl)
      · have hcc : ((out.length : Int) = 0 ∧ out.isEmpty = true) ∨ (¬ (out.length : Int) = 0 ∧ f < n) := by
          by_cases hl0 : (out.length : Int) = 0
          · exact .inl ⟨hl0, by cases out <;> simp at hl0 ⊢; omega⟩
          · exact .inr ⟨hl0, by omega⟩
        have hc : out.isEmpty = true ∨ f < n := by rcases hcc with h | h; exact .inl h.2; exact .inr h.2
        rcases hcc with ⟨hl0, _⟩ | ⟨hl0, hfn⟩
        case' inl => simp only [go_sem, seval, hl3, hl0]
        case' inr => simp only [go_sem, seval, hl3, hl0, hfn]
        all_goals
          refine cg_frame (rBegin_fun a) [] rfl trivial rfl ?_
          rintro sv own' ⟨rfl, rfl⟩
          refine ⟨Nat.le_refl _, ?_⟩
          rcases hbr with hb | ⟨hb, hr⟩
          · have hb' : (832 : Int) ≤ spanBegin a := by omega
            simp only [go_sem, seval, hb', Tryd.results13]
            refine hQ _ _ (cutSV none) [] (RedV.drop rfl) ⟨by rw [hnone hc hb], rfl⟩
          · have hb' : ¬ (832 : Int) ≤ spanBegin a := by omega
            simp only [go_sem, seval, hb', w1]
            refine cg_frame (rLeft_fun (spanBegin a)) [] rfl trivial rfl ?_
            rintro sv own' ⟨rfl, rfl⟩
            refine ⟨Nat.le_refl _, ?_⟩
            by_cases hgt : spanLeft (spanBegin a) - 11 < n - f
            · simp only [go_sem, seval, w2, hgt]
              refine cg_frame (rLeft_fun (spanBegin a)) [] rfl trivial rfl ?_
              rintro sv own' ⟨rfl, rfl⟩
              refine ⟨Nat.le_refl _, ?_⟩
              have w4 : IntKind.i64.wrap (f + (spanLeft (spanBegin a) - 11)) = f + (spanLeft (spanBegin a) - 11) := i64_in _ (by omega)
              have w5 : IntKind.i64.wrap (spanBegin a + 11 + (spanLeft (spanBegin a) - 11)) = spanBegin a + 11 + (spanLeft (spanBegin a) - 11) := i64_in _ (by omega)
              obtain ⟨y, y1, y2, y3, y4⟩ := hsome (spanLeft (spanBegin a) - 11) hc hb (by omega)
              simp only [go_sem, seval, w2, w3, w4, w5, mx64_eq]
              refine ⟨by rw [hl3]; omega, y, y1, ?_⟩
              rw [y2, y3, y4]
              refine Red.pick (idx := [2]) rfl rfl ⟨rfl, trivial⟩ ?_
              simp only [go_sem, seval]
            · have w4 : IntKind.i64.wrap (f + (n - f)) = f + (n - f) := i64_in _ (by omega)
              have w5 : IntKind.i64.wrap (spanBegin a + 11 + (n - f)) = spanBegin a + 11 + (n - f) := i64_in _ (by omega)
              obtain ⟨y, y1, y2, y3, y4⟩ := hsome (n - f) hc hb (by omega)
              simp only [go_sem, seval, w2, w3, w4, w5, hgt, mx64_eq]
              refine ⟨by rw [hl3]; omega, y, y1, ?_⟩
              rw [y2, y3, y4]
              refine Red.pick (idx := [2]) rfl rfl ⟨rfl, trivial⟩ ?_
              simp only [go_sem, seval]
end Go.AM
namespace Go.AM
open Go Go.Proofs Go.IntWalk
set_option autoImplicit false
set_option maxRecDepth 100000

structure WrD where
  file : List UInt8
  epoch : BitVec 64
  body : List UInt8
  end_ : Int
def wCells (w : WrD) : SO := .cells 50 [.ptr 0 0, str w.file, w64 w.epoch, .fsl 1 (bytes w.body) false, i64 w.end_]
def wOwn (d : DiskD) (w : WrD) : List SO := [dCells 1 d, fmap d.files, wCells w]
def newW (h : HdrD) (body : List UInt8) (end_ : Int) : WrD := ⟨walD h.seq, h.epoch, body0 body, clampAt end_⟩
theorem wnew0_fun (h : HdrD) (body : List UInt8) (full : Bool) (end_ : Int) :
    Fun Tryd.prog GH 9 [.v (.pointer none), .agg (hdrC h), .fsl 1 (bytes body) full, i64 end_] [] (fun sv own' => sv = .v (.pointer none) ∧ own' = []) := by
  refine fun_of_vcQ (D := fun n => match n with | 3 => some (.fl 0 (.fl 1 (.fl 2 (.fl 5 (.fl 6 (.fl 7 (.fl 8 (.fl 9 (.mv 3 [6] (.fl 4 (.fl 10 (.mv 11 [] (.mv 12 [] (.done) .no) .no))) .no))))))))) | _ => none) Tryd.func9 (rfl : Tryd.f9.body = some _) (by kernel_rfl) (by kernel_rfl) (by simp [Tryd.f9]) (by kernel_rfl) ?_; intro Q hE hQ
  simp only [go_sem, seval, hdrC, Tryd.results9]
  exact hQ _ _ _ _ (RedV.drop rfl) ⟨rfl, rfl⟩
theorem wnewE_fun (d : DiskD) (h : HdrD) (body : List UInt8) (full : Bool) (end_ : Int) (hw : walD h.seq = []) :
    Fun Tryd.prog GH 9 [.ptr 0 0, .agg (hdrC h), .fsl 1 (bytes body) full, i64 end_] (dOwn d) (fun sv own' => sv = .v (.pointer none) ∧ own' = dOwn d) := by
  refine fun_of_vcQ (D := fun n => match n with | 3 => some (.fl 0 (.fl 1 (.fl 2 (.fl 5 (.fl 6 (.fl 7 (.fl 8 (.fl 9 (.mv 3 [6] (.fl 4 (.fl 10 (.mv 11 [] (.mv 12 [] (.done) .no) .no))) .no))))))))) | _ => none) Tryd.func9 (rfl : Tryd.f9.body = some _) (by kernel_rfl) (by kernel_rfl) (by simp [Tryd.f9]) (by kernel_rfl) ?_; intro Q hE hQ
  simp only [go_sem, seval, hdrC, dOwn]
  refine cg_frame (wal_fun h.seq) [] rfl trivial rfl ?_
  rintro sv own' ⟨rfl, rfl⟩
  refine ⟨Nat.le_refl _, ?_⟩
  have hwe : (([] : List UInt8) == []) = true := rfl
  simp only [go_sem, seval, str, empty_toList, str_toList, hw, hwe, Tryd.results9]
  exact hQ _ _ (.v (.pointer none)) (dOwn d) (red_two rfl rfl rfl) ⟨rfl, rfl⟩
theorem wnew_fun (d : DiskD) (h : HdrD) (body : List UInt8) (full : Bool) (end_ : Int) (hw : walD h.seq ≠ []) :
    Fun Tryd.prog GH 9 [.ptr 0 0, .agg (hdrC h), .fsl 1 (bytes body) full, i64 end_] (dOwn d) (fun sv own' => sv = .ptr 2 0 ∧ own' = wOwn d (newW h body end_)) := by
  refine fun_of_vcQ (D := fun n => match n with | 3 => some (.fl 0 (.fl 1 (.fl 2 (.fl 5 (.fl 6 (.fl 7 (.fl 8 (.fl 9 (.mv 3 [6] (.fl 4 (.fl 10 (.mv 11 [] (.mv 12 [] (.done) .no) .no))) .no))))))))) | _ => none) Tryd.func9 (rfl : Tryd.f9.body = some _) (by kernel_rfl) (by kernel_rfl) (by simp [Tryd.f9]) (by kernel_rfl) ?_; intro Q hE hQ
  have hw' : (walD h.seq == []) = false := by simpa using hw
  have z832 : (832 : Int).toNat = 832 := rfl
  have hcl : max 0 (min end_ 832) = clampAt end_ := rfl
  have hb0 : body.take 832 ++ (List.replicate 832 (0 : UInt8)).drop body.length = body0 body := by rw [List.drop_replicate]; rfl
  simp only [go_sem, seval, hdrC, dOwn]
  refine cg_frame (wal_fun h.seq) [] rfl trivial rfl ?_
  rintro sv own' ⟨rfl, rfl⟩
  refine ⟨Nat.le_refl _, ?_⟩
  simp only [go_sem, seval, str, empty_toList, str_toList, hw']
  refine cg_frame (wal_fun h.seq) [] rfl trivial rfl ?_
  rintro sv own' ⟨rfl, rfl⟩
  refine ⟨Nat.le_refl _, ?_⟩
  simp only [go_sem, seval, -List.reduceReplicate, w64, mx64_eq, hcl, bytes_length, z832, zero_bytes, List.length_replicate, bytes_take, bytes_drop, bytes_append, hb0, Tryd.results9]
  refine hQ _ _ (.ptr 2 0) (wOwn d (newW h body end_)) ?_ ⟨rfl, rfl⟩
  refine Red.trans (RedV.freeze (i := 4) rfl) (Red.pick (idx := [0, 1, 3]) rfl rfl ⟨rfl, ?_, rfl, trivial⟩ ⟨rfl, trivial⟩)
  rw [renO_fmap]; rfl

/-! ### The methods of a nil writer -/
theorem wappend0_fun (data : List UInt8) (full : Bool) : Fun Tryd.prog GH 5 [.v (.pointer none), .fsl 1 (bytes data) full] [] (fun sv own' => sv = .tup [i64 0, i64 11] ∧ own' = []) := by
  refine fun_of_vcQ (D := fun n => match n with | 3 => some (.fl 0 (.fl 1 (.fl 2 (.fl 3 (.fl 4 (.fl 5 (.fl 6 (.fl 7 (.fl 8 (.fl 9 (.fl 10 (.fl 11 (.fl 12 (.mv 13 [] (.fl 14 (.fl 15 (.fl 16 (.fl 17 (.mv 18 [] (.mv 19 [] (.mv 20 [] (.done) .no) .no) .no))))) .no)))))))))))))) | 6 => some (.fl 0 (.fl 1 (.fl 2 (.fl 3 (.fl 4 (.fl 5 (.fl 6 (.fl 7 (.fl 8 (.fl 9 (.mv 10 [] (.fl 11 (.fl 12 (.fl 13 (.mv 14 [] (.mv 15 [] (.done) .no) .no)))) .no))))))))))) | 7 => some (.fl 0 (.fl 1 (.fl 2 (.fl 3 (.fl 4 (.fl 5 (.fl 6 (.fl 7 (.fl 8 (.fl 9 (.fl 10 (.fl 11 (.fl 12 (.mv 13 [] (.mv 14 [] (.done) .no) .no)))))))))))))) | _ => none) Tryd.func5 (rfl : Tryd.f5.body = some _) (by kernel_rfl) (by kernel_rfl) (by simp [Tryd.f5]) (by kernel_rfl) ?_; intro Q hE hQ
  simp only [go_sem, seval, Tryd.results5]
  exact hE _ _ ⟨rfl, rfl⟩
theorem wsync0_fun : Fun Tryd.prog GH 6 [.v (.pointer none)] [] (fun sv own' => sv = i64 11 ∧ own' = []) := by
  refine fun_of_vcQ (D := fun n => match n with | 3 => some (.fl 0 (.fl 1 (.fl 2 (.fl 3 (.fl 4 (.fl 5 (.fl 6 (.fl 7 (.fl 8 (.fl 9 (.mv 10 [] (.mv 11 [] (.done) .no) .no))))))))))) | _ => none) Tryd.func6 (rfl : Tryd.f6.body = some _) (by kernel_rfl) (by kernel_rfl) (by simp [Tryd.f6]) (by kernel_rfl) ?_; intro Q hE hQ
  simp only [go_sem, seval, Tryd.results6]
  exact hE _ _ ⟨rfl, rfl⟩
theorem wfits0_fun (n : Int) : Fun Tryd.prog GH 7 [.v (.pointer none), i64 n] [] (fun sv own' => sv = bl false ∧ own' = []) := by
  refine fun_of_vcQ (D := fun _ => none) Tryd.func7 (rfl : Tryd.f7.body = some _) (by kernel_rfl) (by kernel_rfl) (by simp [Tryd.f7]) (by kernel_rfl) ?_; intro Q hE hQ
  simp only [go_sem, seval, Tryd.results7]
  exact hE _ _ ⟨rfl, rfl⟩
theorem wend0_fun : Fun Tryd.prog GH 8 [.v (.pointer none)] [] (fun sv own' => sv = i64 0 ∧ own' = []) := by
  refine fun_of_vcQ (D := fun _ => none) Tryd.func8 (rfl : Tryd.f8.body = some _) (by kernel_rfl) (by kernel_rfl) (by simp [Tryd.f8]) (by kernel_rfl) ?_; intro Q hE hQ
  simp only [go_sem, seval, Tryd.results8]
  exact hE _ _ ⟨rfl, rfl⟩

/-! ### Those of another -/
theorem wend_fun (d : DiskD) (w : WrD) : Fun Tryd.prog GH 8 [.ptr 2 0] (wOwn d w) (fun sv own' => sv = i64 w.end_ ∧ own' = wOwn d w) := by
  refine fun_of_vcQ (D := fun _ => none) Tryd.func8 (rfl : Tryd.f8.body = some _) (by kernel_rfl) (by kernel_rfl) (by simp [Tryd.f8]) (by kernel_rfl) ?_; intro Q hE hQ
  simp only [go_sem, seval, wOwn, wCells, Tryd.results8]
  exact hE _ _ ⟨rfl, rfl⟩
theorem wfits_fun (d : DiskD) (w : WrD) (n : Int) : Fun Tryd.prog GH 7 [.ptr 2 0, i64 n] (wOwn d w) (fun sv own' => sv = bl (cutD w.end_ n).isSome ∧ own' = wOwn d w) := by
  refine fun_of_vcQ (D := fun _ => none) Tryd.func7 (rfl : Tryd.f7.body = some _) (by kernel_rfl) (by kernel_rfl) (by simp [Tryd.f7]) (by kernel_rfl) ?_; intro Q hE hQ
  simp only [go_sem, seval, wOwn, wCells]
  refine cg_frame (fits_fun w.end_ n) [] rfl trivial rfl ?_
  rintro sv own' ⟨rfl, rfl⟩
  refine ⟨Nat.le_refl _, ?_⟩
  simp only [go_sem, seval, bl, Tryd.results7]
  exact hE _ _ ⟨rfl, rfl⟩
theorem wsync_fun (d : DiskD) (w : WrD) (hw : WFD d) : Fun Tryd.prog GH 6 [.ptr 2 0] (wOwn d w) (fun sv own' => sv = i64 (syncD d w.file).2 ∧ own' = wOwn (syncD d w.file).1 w) := by
  refine fun_of_vcQ (D := fun n => match n with | 3 => some (.fl 0 (.fl 1 (.fl 2 (.fl 3 (.fl 4 (.fl 5 (.fl 6 (.fl 7 (.fl 8 (.fl 9 (.mv 10 [] (.mv 11 [] (.done) .no) .no))))))))))) | _ => none) Tryd.func6 (rfl : Tryd.f6.body = some _) (by kernel_rfl) (by kernel_rfl) (by simp [Tryd.f6]) (by kernel_rfl) ?_; intro Q hE hQ
  simp only [go_sem, seval, wOwn, wCells]
  refine cg_frame (sync_fun d w.file (hw.2 w.file)) [0, 1] rfl ?_ rfl ?_
  · simp only [go_sem, seval, dOwn]; try trivial
  rintro sv own' ⟨rfl, rfl⟩
  refine ⟨Nat.le_refl _, ?_⟩
  simp only [go_sem, seval, dOwn, Tryd.results6]
  exact hE _ _ ⟨rfl, rfl⟩
def appD (d : DiskD) (w : WrD) (data : List UInt8) : DiskD × WrD × Int × Int := match cutD w.end_ data.length with
  | none => (d, w, 0, 6)
  | some (l, a) =>
    if (writeD d w.file (1 + (planW w.epoch (addD w.epoch w.body data l) w.end_ a).1) (planW w.epoch (addD w.epoch w.body data l) w.end_ a).2).2 = 0
    then ((writeD d w.file (1 + (planW w.epoch (addD w.epoch w.body data l) w.end_ a).1) (planW w.epoch (addD w.epoch w.body data l) w.end_ a).2).1, { w with body := addD w.epoch w.body data l, end_ := a }, spanBegin w.end_, 0)
    else ((writeD d w.file (1 + (planW w.epoch (addD w.epoch w.body data l) w.end_ a).1) (planW w.epoch (addD w.epoch w.body data l) w.end_ a).2).1, w, 0, (writeD d w.file (1 + (planW w.epoch (addD w.epoch w.body data l) w.end_ a).1) (planW w.epoch (addD w.epoch w.body data l) w.end_ a).2).2)
theorem wappend_fun (d : DiskD) (w : WrD) (data : List UInt8) (full : Bool) (hw : WFD d) (hd : data.length < 2 ^ 40) :
    Fun Tryd.prog GH 5 [.ptr 2 0, .fsl 1 (bytes data) full] (wOwn d w) (fun sv own' => sv = .tup [i64 (appD d w data).2.2.1, i64 (appD d w data).2.2.2] ∧ own' = wOwn (appD d w data).1 (appD d w data).2.1) := by
  refine fun_of_vcQ (D := fun n => match n with | 3 => some (.fl 0 (.fl 1 (.fl 2 (.fl 3 (.fl 4 (.fl 5 (.fl 6 (.fl 7 (.fl 8 (.fl 9 (.fl 10 (.fl 11 (.fl 12 (.mv 13 [] (.fl 14 (.fl 15 (.fl 16 (.fl 17 (.mv 18 [] (.mv 19 [] (.mv 20 [] (.done) .no) .no) .no))))) .no)))))))))))))) | 6 => some (.fl 0 (.fl 1 (.fl 2 (.fl 3 (.fl 4 (.fl 5 (.fl 6 (.fl 7 (.fl 8 (.fl 9 (.mv 10 [] (.fl 11 (.fl 12 (.fl 13 (.mv 14 [] (.mv 15 [] (.done) .no) .no)))) .no))))))))))) | 7 => some (.fl 0 (.fl 1 (.fl 2 (.fl 3 (.fl 4 (.fl 5 (.fl 6 (.fl 7 (.fl 8 (.fl 9 (.fl 10 (.fl 11 (.fl 12 (.mv 13 [] (.mv 14 [] (.done) .no) .no)))))))))))))) | _ => none) Tryd.func5 (rfl : Tryd.f5.body = some _) (by kernel_rfl) (by kernel_rfl) (by simp [Tryd.f5]) (by kernel_rfl) ?_; intro Q hE hQ
  simp only [go_sem, seval, wOwn, wCells]
  refine cg_frame (add_fun w.epoch w.body false w.end_ data full hd) [] rfl trivial rfl ?_
  rintro sv own' ⟨rfl, rfl⟩
  refine ⟨Nat.le_refl _, ?_⟩
  rcases h : cutD w.end_ data.length with _ | ⟨l, a⟩
  · simp only [go_sem, seval, addSV, bl, Tryd.results5]
    refine hE _ _ ⟨?_, ?_⟩ <;> simp [appD, h, i64, wOwn, wCells, w64]
  · simp only [go_sem, seval, addSV, bl]
    have hp := cutD_pieces h
    have hal : (addD w.epoch w.body data l).length = 832 := layD_length _ _ _ _ hp (body0_length _)
    generalize hB : addD w.epoch w.body data l = B at hal
    refine cg_frame (planWrite_fun w.epoch B false w.end_ a (by omega)) [] rfl trivial rfl ?_
    rintro sv own' ⟨rfl, rfl⟩
    refine ⟨Nat.le_refl _, ?_⟩
    have hb := touch_bound w.end_ a
    have hpw : (planW w.epoch B w.end_ a).1 = (spanTouch w.end_ a).1 := rfl
    have hpl : (planW w.epoch B w.end_ a).2.length < 2 ^ 62 := by simp [planW, planL]; omega
    have w1 : IntKind.i64.wrap (1 + (planW w.epoch B w.end_ a).1) = 1 + (planW w.epoch B w.end_ a).1 := by rw [hpw]; exact i64_in _ (by omega)
    simp only [go_sem, seval, w1]
    refine cg_frame (write_fun d w.file (1 + (planW w.epoch B w.end_ a).1) (planW w.epoch B w.end_ a).2 false (hw.2 w.file) hpl) [0, 1] rfl ?_ rfl ?_
    · simp only [go_sem, seval, dOwn]; try trivial
    rintro sv own' ⟨rfl, rfl⟩
    refine ⟨Nat.le_refl _, ?_⟩
    by_cases he : (writeD d w.file (1 + (planW w.epoch B w.end_ a).1) (planW w.epoch B w.end_ a).2).2 = 0
    · simp only [go_sem, seval, dOwn, he]
      refine cg_frame (begin_fun w.end_) [] rfl trivial rfl ?_
      rintro sv own' ⟨rfl, rfl⟩
      refine ⟨Nat.le_refl _, ?_⟩
      simp only [go_sem, seval, Tryd.results5]
      refine hE _ _ ⟨?_, ?_⟩ <;> simp [appD, h, hB, he, i64, wOwn, wCells, w64]
    · simp only [go_sem, seval, dOwn, he, Tryd.results5]
      refine hE _ _ ⟨?_, ?_⟩ <;> simp [appD, h, hB, he, i64, wOwn, wCells, w64]
theorem rhdr_fun (seq : Int) (e : BitVec 64) : Fun Tryd.prog GH 10 [i64 seq, w64 e] [] (fun sv own' => sv = .agg (hdrC ⟨e, seq, 1, 0, 0, 0, 0⟩) ∧ own' = []) := by
  refine fun_of_vcQ (D := fun _ => none) Tryd.func10 (rfl : Tryd.f10.body = some _) (by kernel_rfl) (by kernel_rfl) (by simp [Tryd.f10]) (by kernel_rfl) ?_; intro Q hE hQ
  simp only [go_sem, seval, w64, Tryd.results10]
  refine hQ _ _ (.agg (hdrC ⟨e, seq, 1, 0, 0, 0, 0⟩)) [] (RedV.drop rfl) ⟨rfl, rfl⟩
end Go.AM
namespace Go.AM
open Go Go.Proofs Go.IntWalk
set_option autoImplicit false
set_option maxRecDepth 100000

/-! ### The plain law of the writer -/
structure Well (d : DiskD) : Prop where
  told : d.told = false
  down : d.down = false
theorem well_op {d : DiskD} (h : Well d) : Well (opD d) := by
  have : opStops d = false := by simp [opStops, h.told]
  unfold opD; rw [this]
  exact ⟨h.told, h.down⟩
theorem well_then {d : DiskD} (h : Well d) (k : DiskD → DiskD) : thenD d k = (k (opD d), 0) := by
  have : opStops d = false := by simp [opStops, h.told]
  unfold thenD; rw [this]; rfl
theorem well_may {d : DiskD} (h : Well d) : mayE d = 0 := by simp [mayE, h.down]
theorem well_new (cap : Int) : Well (newD cap) := ⟨rfl, rfl⟩
theorem holds_of {f : FileD} {a n : Nat} (h : a + n ≤ f.seen.length) (hb : f.seen.length ≤ 64) : holdsF f a n = true := by
  have hw : w64i ((f.seen.length : Int) - (a : Int)) = (f.seen.length : Int) - (a : Int) := i64_in _ (by omega)
  simp only [holdsF, hw, Bool.and_eq_true, decide_eq_true_eq]
  omega
theorem write_ok {d : DiskD} (hd : Well d) {s : List UInt8} {f : FileD} (hf : mget d.files s = some f) {a : Nat} {l : List (List UInt8)} (h : a + l.length ≤ f.seen.length) (hb : f.seen.length ≤ 64) :
    writeD d s a l = ({ opD d with files := mset (opD d).files s (writeF f a l) }, 0) := by
  unfold writeD
  rw [well_may hd, hf]
  simp only [ne_eq, not_true_eq_false, if_false]
  rw [holds_of h hb, if_pos rfl, well_then hd]
  simp only [Int.toNat_natCast]
theorem sync_ok {d : DiskD} (hd : Well d) {s : List UInt8} {f : FileD} (hf : mget d.files s = some f) : syncD d s = ({ opD d with files := mset (opD d).files s (syncF f) }, 0) := by
  unfold syncD
  rw [well_may hd, hf]
  simp only [ne_eq, not_true_eq_false, if_false]
  rw [well_then hd]
theorem rename_ok {d : DiskD} (hd : Well d) {a b : List UInt8} {f : FileD} (hf : mget d.files a = some f) (hb : nameRight b = true) (hab : a ≠ b) : renameD d a b = (renD (opD d) a b f, 0) := by
  unfold renameD
  rw [well_may hd, hf]
  simp only [ne_eq, not_true_eq_false, if_false, hb, if_true]
  rw [if_neg (by simpa using hab), well_then hd]

theorem make_ok {s : List UInt8} (hs : nameRight s = true) : makeO (newD 17) s 17 = (makeD (opD (newD 17)) s 17, 0) := by
  have hu : usedD (newD 17) = 0 := by
    have : listD (newD 17) = [] := by show msort [] = []; simp [msort]
    unfold usedD; rw [this]; rfl
  have hc : (newD 17).cap = 17 := rfl
  have hm : mget (newD 17).files s = none := rfl
  have hl : (newD 17).files.length = 0 := rfl
  unfold makeO
  rw [well_may (well_new 17), hm, hu, hc, hl, well_then (well_new 17), hs]
  rw [if_neg (by decide), if_neg (by decide), if_neg (by decide), if_neg (by decide), if_neg (by decide)]
  rfl
theorem wal1 : walD 1 = [119, 97, 108, 45, 49] := by
  rw [walD, if_neg (by decide), show (1 : Int).toNat = 1 from rfl, digits_lt (by decide)]; rfl
theorem pool1 : poolD 1 = [102, 114, 101, 101, 45, 49] := by
  rw [poolD, if_neg (by decide), show (1 : Int).toNat = 1 from rfl, digits_lt (by decide)]; rfl
theorem wal1_right : nameRight (walD 1) = true := by rw [wal1]; decide
theorem pool1_right : nameRight (poolD 1) = true := by rw [pool1]; decide

theorem take_ok : takeD (newD 17) = (makeD (opD (newD 17)) (poolD 1) 17, poolD 1, 0) := by
  have hs : ∀ s, sizeD (newD 17) s = 0 := fun s => rfl
  have hi : ∀ s, inD (newD 17) s = false := fun s => by simp [inD, hs]
  have hu : unusedD (newD 17) = poolD 1 := by unfold unusedD; rw [hs, if_pos rfl]
  have hne : poolD 1 ≠ [] := by rw [pool1]; nofun
  unfold takeD
  rw [well_may (well_new 17), hi, hi, hu, make_ok pool1_right]
  rw [if_neg (by decide), if_neg (by decide), if_neg (by decide), if_neg hne, if_neg (by decide)]

/-- The disk behind segment.Begin. -/
def begunF (h : HdrD) : FileD := ⟨segSecs h, segSecs h, List.replicate 17 false⟩
theorem segSecs_length (h : HdrD) : (segSecs h).length = 17 := by simp [segSecs]
theorem mput_nil {α : Type} (s : List UInt8) (v : α) : mput [] s v = [(s, v)] := rfl
theorem mset_one {α : Type} (s : List UInt8) (u v : α) : mset [(s, u)] s v = [(s, v)] := by simp [mset]
theorem mdel_one {α : Type} (s : List UInt8) (u : α) : mdel [(s, u)] s = [] := by simp [mdel]
theorem mget_one {α : Type} (s : List UInt8) (u : α) : mget [(s, u)] s = some u := by rw [mget_cons, if_pos rfl]
theorem begin_ok (h : HdrD) (hr : hdrRight h = true) (hn : nameRight (walD h.seq) = true) (hne : poolD 1 ≠ walD h.seq) :
    ∃ d, beginD (newD 17) h = (d, 0) ∧ Well d ∧ d.files = [(walD h.seq, begunF h)] := by
  have hs : ∀ s, sizeD (newD 17) s = 0 := fun s => rfl
  have w0 := well_new 17
  obtain ⟨d1, hd1⟩ : ∃ d1, d1 = makeD (opD (newD 17)) (poolD 1) 17 := ⟨_, rfl⟩
  have w1 : Well d1 := by rw [hd1]; exact ⟨(well_op w0).told, (well_op w0).down⟩
  have f1 : d1.files = [(poolD 1, newF 17)] := by rw [hd1]; rfl
  have g1 : mget d1.files (poolD 1) = some (newF 17) := by rw [f1, mget_one]
  have l1 : (newF 17).seen.length = 17 := by simp [newF]
  have hw := write_ok w1 g1 (a := 0) (l := segSecs h) (by rw [segSecs_length, l1]; decide) (by rw [l1]; decide)
  obtain ⟨d2, hd2⟩ : ∃ d2 : DiskD, d2 = { opD d1 with files := mset (opD d1).files (poolD 1) (writeF (newF 17) 0 (segSecs h)) } := ⟨_, rfl⟩
  have w2 : Well d2 := by rw [hd2]; exact ⟨(well_op w1).told, (well_op w1).down⟩
  have f2 : d2.files = [(poolD 1, writeF (newF 17) 0 (segSecs h))] := by rw [hd2]; simp only [opD_files, f1, mset_one]
  have g2 : mget d2.files (poolD 1) = some (writeF (newF 17) 0 (segSecs h)) := by rw [f2, mget_one]
  have hsy := sync_ok w2 g2
  have hF : syncF (writeF (newF 17) 0 (segSecs h)) = begunF h := by
    have e : over (newF 17).seen 0 (segSecs h) = segSecs h := by
      simp [over]; rw [segSecs_length, l1]; exact Nat.le_refl _
    have e2 : (over (newF 17).waits 0 (List.replicate (segSecs h).length true)).length = 17 := by
      rw [segSecs_length]; simp [over, newF]
    unfold syncF writeF begunF
    simp only [e, e2]
  rw [hF] at hsy
  obtain ⟨d3, hd3⟩ : ∃ d3 : DiskD, d3 = { opD d2 with files := mset (opD d2).files (poolD 1) (begunF h) } := ⟨_, rfl⟩
  have w3 : Well d3 := by rw [hd3]; exact ⟨(well_op w2).told, (well_op w2).down⟩
  have f3 : d3.files = [(poolD 1, begunF h)] := by rw [hd3]; simp only [opD_files, f2, mset_one]
  have g3 : mget d3.files (poolD 1) = some (begunF h) := by rw [f3, mget_one]
  have hre := rename_ok w3 g3 hn hne
  have hp : prepD d1 (poolD 1) h = (d3, 0) := by
    have hz : sizeD d1 (poolD 1) = 17 := by rw [sizeD, g1]; simp only; rw [l1]; rfl
    unfold prepD
    rw [hr, well_may w1, hz]
    rw [if_neg (by decide), if_neg (by decide), if_neg (by decide), if_neg (by decide)]
    have hw' : writeD d1 (poolD 1) 0 (segSecs h) = (d2, 0) := by rw [hd2]; exact hw
    rw [hw', if_neg (by simp)]
    rw [hd3]; exact hsy
  refine ⟨renD (opD d3) (poolD 1) (walD h.seq) (begunF h), ?_, ⟨(well_op w3).told, (well_op w3).down⟩, ?_⟩
  · unfold beginD
    rw [hr, well_may w0, hs, take_ok, ← hd1]
    rw [if_neg (by decide), if_neg (by decide), if_neg (by decide)]
    simp only [stepD, if_true]
    rw [hp]
    simp only [if_true]
    exact hre
  · simp only [renD, opD_files, f3, mdel_one, mput_nil]

theorem prep_wf {d : DiskD} (s : List UInt8) (h : HdrD) (hw : WFD d) : WFD (prepD d s h).1 := by
  have h1 := write_wf s 0 (segSecs h) hw
  have h2 := sync_wf s h1
  unfold prepD
  repeat' split
  all_goals first | exact hw | exact h1 | exact h2
theorem step_wf {r : DiskD × Int} {k : DiskD → DiskD × Int} (h : WFD r.1) (hk : ∀ d, WFD d → WFD (k d).1) : WFD (stepD r k).1 := by
  unfold stepD; split
  · exact hk _ h
  · exact h
theorem segBegin_wf {d : DiskD} (hw : WFD d) (h : HdrD) : WFD (beginD d h).1 := by
  unfold beginD
  repeat' split
  all_goals first
    | exact hw
    | exact step_wf (step_wf (take_wf hw) fun d hd => prep_wf _ _ hd) fun d hd => rename_wf _ _ hd
theorem append_wf {d : DiskD} (w : WrD) (data : List UInt8) (hw : WFD d) : WFD (appD d w data).1 := by
  unfold appD
  repeat' split
  all_goals first | exact hw | exact write_wf _ _ _ hw
/-! ### Append -/
theorem append_ok {d : DiskD} {w : WrD} {data : List UInt8} {l : List PieceD} {a : Int} {f : FileD} (hd : Well d) (hf : mget d.files w.file = some f) (h17 : f.seen.length = 17) (hc : cutD w.end_ data.length = some (l, a)) :
    ∃ d' f', appD d w data = (d', { w with body := addD w.epoch w.body data l, end_ := a }, spanBegin w.end_, 0) ∧ Well d' ∧ mget d'.files w.file = some f' ∧ f'.seen.length = 17 := by
  unfold appD
  rw [hc]
  simp only
  generalize addD w.epoch w.body data l = B
  have hb := touch_bound w.end_ a
  have hpw : (planW w.epoch B w.end_ a).1 = (spanTouch w.end_ a).1 := rfl
  have hpl : ((planW w.epoch B w.end_ a).2.length : Int) = (spanTouch w.end_ a).2 - (spanTouch w.end_ a).1 := by simp [planW, planL]; omega
  obtain ⟨k, hk⟩ : ∃ k : Nat, 1 + (planW w.epoch B w.end_ a).1 = (k : Int) := ⟨(1 + (planW w.epoch B w.end_ a).1).toNat, by omega⟩
  have hlen : k + (planW w.epoch B w.end_ a).2.length ≤ f.seen.length := by omega
  rw [hk, write_ok hd hf hlen (by omega)]
  simp only [if_true]
  refine ⟨_, writeF f k (planW w.epoch B w.end_ a).2, rfl, ⟨(well_op hd).told, (well_op hd).down⟩, ?_, ?_⟩
  · simp only [opD_files]
    rw [mget_mset, if_pos rfl, hf]; rfl
  · show (over f.seen k (planW w.epoch B w.end_ a).2).length = 17
    rw [over_length _ _ _ hlen, h17]
theorem append_no {d : DiskD} {w : WrD} {data : List UInt8} (hc : cutD w.end_ data.length = none) : appD d w data = (d, w, 0, 6) := by
  unfold appD; rw [hc]

theorem spanBegin_clamp (x : Int) : spanBegin (clampAt x) = spanBegin x := by unfold spanBegin; rw [clamp_clamp]
theorem cutD_clamp (x n : Int) : cutD (clampAt x) n = cutD x n := by
  unfold cutD
  split
  · rfl
  · rw [cutRun, cutRun, if_neg (by simp), if_neg (by simp)]
    simp only [cutStep, spanBegin_clamp, clamp_clamp]
theorem cut_0_10 : ∃ l, cutD 0 10 = some (l, 21) := by
  have hs : cutStep 10 0 0 true = some (⟨0, 1, 0, 10⟩, 21, 10) := by
    rw [cutStep, if_neg (by decide)]; rfl
  refine ⟨[⟨0, 1, 0, 10⟩], ?_⟩
  unfold cutD
  rw [if_neg (by decide), cutRun, if_neg (by simp)]
  show (match cutStep 10 0 0 true with
    | none => none
    | some (p, a, f) => if h : clampAt 0 < clampAt a then cutRun 10 a f ([] ++ [p]) else none) = _
  rw [hs]
  simp only
  rw [dif_pos (by decide), cutRun, if_pos (by simp)]; rfl
theorem cut_21_10 : ∃ l, cutD 21 10 = some (l, 42) := by
  have hs : cutStep 10 21 0 true = some (⟨21, 1, 0, 10⟩, 42, 10) := by
    rw [cutStep, if_neg (by decide)]; rfl
  refine ⟨[⟨21, 1, 0, 10⟩], ?_⟩
  unfold cutD
  rw [if_neg (by decide), cutRun, if_neg (by simp)]
  show (match cutStep 10 21 0 true with
    | none => none
    | some (p, a, f) => if h : clampAt 21 < clampAt a then cutRun 10 a f ([] ++ [p]) else none) = _
  rw [hs]
  simp only
  rw [dif_pos (by decide), cutRun, if_pos (by simp)]; rfl
end Go.AM
namespace Go.AM
open Go Go.Proofs Go.IntWalk
set_option autoImplicit false
set_option maxRecDepth 100000

def z10 : List UInt8 := List.replicate 10 0
def aH : HdrD := ⟨5, 1, 1, 0, 0, 0, 0⟩
theorem aH_right : hdrRight aH = true := by decide
theorem awake_fun (hS : SortOK Tryd.prog 71) : Fun Tryd.prog GH 4 [] [] (fun sv own' => sv = bl true ∧ own' = []) := by
  refine fun_of_vcQ (D := fun _ => none) Tryd.func4 (rfl : Tryd.f4.body = some _) (by kernel_rfl) (by kernel_rfl) (by simp [Tryd.f4]) (by kernel_rfl) ?_; intro Q hE hQ
  simp only [go_sem, seval]
  refine cg_frame (dnew_fun 17) [] rfl trivial rfl ?_
  rintro sv own' ⟨rfl, rfl⟩
  refine ⟨Nat.zero_le _, ?_⟩
  simp only [go_sem, seval]
  refine cg_frame (rhdr_fun 1 5) [] rfl trivial rfl ?_
  rintro sv own' ⟨rfl, rfl⟩
  refine ⟨Nat.le_refl _, ?_⟩
  obtain ⟨d1, hb, w1, f1⟩ := begin_ok aH aH_right wal1_right (by show poolD 1 ≠ walD 1; rw [pool1, wal1]; decide)
  have hwf : WFD (newD 17) := ⟨Nat.zero_le _, fun s f h => by cases h⟩
  have hBeg := segBegin_fun hS (newD 17) hwf aH (by show (walD 1).length < _; rw [wal1]; decide)
  rw [hb] at hBeg
  simp only [go_sem, seval, hdrC]
  refine cg_frame hBeg [1, 0] rfl ?_ rfl ?_
  · simp only [go_sem, seval, dOwn]; try trivial
  rintro sv own' ⟨rfl, rfl⟩
  refine ⟨Nat.le_refl _, ?_⟩
  simp only [go_sem, seval, dOwn]
  refine cg_args (args2 := [.ptr 1 0, .agg (hdrC aH), .fsl 1 (bytes []) false, i64 0]) ?_ ?_
  · rintro F ρ vs ⟨x1, _, rfl, h1, x2, _, rfl, h2, x3, _, rfl, h3, h4⟩
    exact ⟨x1, _, rfl, h1, x2, _, rfl, h2, x3, _, rfl, nil_fsl 1 false h3, h4⟩
  refine cg_frame (wnew_fun d1 aH [] false 0 (by show walD 1 ≠ []; rw [wal1]; nofun)) [1, 0] rfl ?_ rfl ?_
  · simp only [go_sem, seval, dOwn]; try trivial
  rintro sv own' ⟨rfl, rfl⟩
  refine ⟨by simp [dOwn, wOwn], ?_⟩
  obtain ⟨W0, hW0⟩ : ∃ W0, W0 = newW aH [] 0 := ⟨_, rfl⟩
  have e0 : W0.end_ = 0 := by rw [hW0]; rfl
  have n0 : W0.file = walD 1 := by rw [hW0]; rfl
  rw [← hW0]
  have g1 : mget d1.files W0.file = some (begunF aH) := by rw [f1, n0]; exact mget_one _ _
  obtain ⟨l1, hc1⟩ := cut_0_10
  have hc1' : cutD W0.end_ z10.length = some (l1, 21) := by rw [e0]; exact hc1
  obtain ⟨d2, f2, ha1, w2, g2, s2⟩ := append_ok w1 g1 (by show (segSecs aH).length = 17; rw [segSecs_length]) hc1'
  have hwf1 : WFD d1 := by
    have := segBegin_wf hwf aH
    rw [hb] at this; exact this
  have hwf2 : WFD d2 := by
    have := append_wf W0 z10 hwf1
    rw [ha1] at this; exact this
  have hA1 := wappend_fun d1 W0 z10 false hwf1 (by simp [z10])
  rw [ha1] at hA1
  obtain ⟨W1, hW1⟩ : ∃ W1 : WrD, W1 = { W0 with body := addD W0.epoch W0.body z10 l1, end_ := 21 } := ⟨_, rfl⟩
  rw [← hW1] at hA1
  have e1 : W1.end_ = 21 := by rw [hW1]
  have n1 : W1.file = W0.file := by rw [hW1]
  obtain ⟨l2, hc2⟩ := cut_21_10
  have hc2' : cutD W1.end_ z10.length = some (l2, 42) := by rw [e1]; exact hc2
  obtain ⟨d3, f3, ha2, w3, g3, s3⟩ := append_ok (w := W1) w2 (by rw [n1]; exact g2) s2 hc2'
  have hA2 := wappend_fun d2 W1 z10 false hwf2 (by simp [z10])
  rw [ha2] at hA2
  obtain ⟨W2, hW2⟩ : ∃ W2 : WrD, W2 = { W1 with body := addD W1.epoch W1.body z10 l2, end_ := 42 } := ⟨_, rfl⟩
  rw [← hW2] at hA2
  have e2 : W2.end_ = 42 := by rw [hW2]
  have b0 : spanBegin W0.end_ = 0 := by rw [e0]; decide
  have b1 : spanBegin W1.end_ = 21 := by rw [e1]; decide
  rw [b0] at hA1
  rw [b1] at hA2
  simp only [go_sem, seval, wOwn, wCells, mx64_eq]
  refine cg_freeze (i := 4) rfl ?_
  refine cg_frame hA1 [1, 0, 3] rfl ?_ rfl ?_
  · simp only [go_sem, seval, wOwn, wCells]; try trivial
  rintro sv own' ⟨rfl, rfl⟩
  refine ⟨by simp [wOwn], ?_⟩
  simp only [go_sem, seval, wOwn, wCells, mx64_eq]
  refine cg_freeze (i := 5) rfl ?_
  refine cg_frame hA2 [1, 0, 3] rfl ?_ rfl ?_
  · simp only [go_sem, seval, wOwn, wCells]; try trivial
  rintro sv own' ⟨rfl, rfl⟩
  refine ⟨by simp [wOwn], ?_⟩
  simp only [go_sem, seval, wOwn, wCells]
  refine cg_frame (wend_fun d3 W2) [1, 0, 3] rfl ?_ rfl ?_
  · simp only [go_sem, seval, wOwn, wCells]; try trivial
  rintro sv own' ⟨rfl, rfl⟩
  refine ⟨by simp [wOwn], ?_⟩
  simp only [go_sem, seval, wOwn, wCells, e2, Tryd.results4]
  exact hQ _ _ (bl true) [] (RedV.drop rfl) ⟨rfl, rfl⟩

theorem nobody_fun (hS : SortOK Tryd.prog 71) (body : List UInt8) (fb : Bool) (end_ : Int) (data : List UInt8) (fd : Bool) :
    Fun Tryd.prog GH 3 [.fsl 1 (bytes body) fb, i64 end_, .fsl 1 (bytes data) fd] [] (fun sv own' => sv = bl true ∧ own' = []) := by
  refine fun_of_vcQ (D := fun _ => none) Tryd.func3 (rfl : Tryd.f3.body = some _) (by kernel_rfl) (by kernel_rfl) (by simp [Tryd.f3]) (by kernel_rfl) ?_; intro Q hE hQ
  by_cases hlen : (1000 : Int) < (data.length : Int)
  · simp only [go_sem, seval, bytes_length, hlen]
    refine cg_frame (awake_fun hS) [] rfl trivial rfl ?_
    rintro sv own' ⟨rfl, rfl⟩
    refine ⟨Nat.le_refl _, ?_⟩
    simp only [go_sem, seval, Tryd.results3]
    exact hE _ _ ⟨rfl, rfl⟩
  · simp only [go_sem, seval, bytes_length, hlen]
    refine cg_frame (wappend0_fun data fd) [] rfl trivial rfl ?_
    rintro sv own' ⟨rfl, rfl⟩
    refine ⟨Nat.le_refl _, ?_⟩
    simp only [go_sem, seval]
    refine cg_frame wsync0_fun [] rfl trivial rfl ?_
    rintro sv own' ⟨rfl, rfl⟩
    refine ⟨Nat.le_refl _, ?_⟩
    simp only [go_sem, seval]
    refine cg_frame (wfits0_fun 0) [] rfl trivial rfl ?_
    rintro sv own' ⟨rfl, rfl⟩
    refine ⟨Nat.le_refl _, ?_⟩
    simp only [go_sem, seval, bl]
    refine cg_frame wend0_fun [] rfl trivial rfl ?_
    rintro sv own' ⟨rfl, rfl⟩
    refine ⟨Nat.le_refl _, ?_⟩
    simp only [go_sem, seval]
    refine cg_frame (rhdr_fun 1 1) [] rfl trivial rfl ?_
    rintro sv own' ⟨rfl, rfl⟩
    refine ⟨Nat.le_refl _, ?_⟩
    simp only [go_sem, seval]
    refine cg_frame (wnew0_fun ⟨1, 1, 1, 0, 0, 0, 0⟩ body fb end_) [] rfl trivial rfl ?_
    rintro sv own' ⟨rfl, rfl⟩
    refine ⟨Nat.le_refl _, ?_⟩
    simp only [go_sem, seval]
    refine cg_frame (dnew_fun 9) [] rfl trivial rfl ?_
    rintro sv own' ⟨rfl, rfl⟩
    refine ⟨Nat.zero_le _, ?_⟩
    simp only [go_sem, seval]
    refine cg_frame (wnewE_fun (newD 9) ⟨0, 0, 0, 0, 0, 0, 0⟩ body fb end_ rfl) [1, 0] rfl ?_ rfl ?_
    · simp only [go_sem, seval, dOwn]; try trivial
    rintro sv own' ⟨rfl, rfl⟩
    refine ⟨Nat.le_refl _, ?_⟩
    simp only [go_sem, seval, dOwn]
    refine cg_frame (dnew_fun 17) [] rfl trivial rfl ?_
    rintro sv own' ⟨rfl, rfl⟩
    refine ⟨Nat.zero_le _, ?_⟩
    simp only [go_sem, seval]
    have hwf : WFD (newD 17) := ⟨Nat.zero_le _, fun s f h => by cases h⟩
    have hmk := make_fun hS (newD 17) hwf (walD 1) 17 (by rw [wal1]; decide)
    have hwfm := make_wf (walD 1) 17 hwf
    rw [make_ok wal1_right] at hmk hwfm
    obtain ⟨d1, hd1⟩ : ∃ d1, d1 = makeD (opD (newD 17)) (walD 1) 17 := ⟨_, rfl⟩
    have w0 := well_new 17
    have w1 : Well d1 := by rw [hd1]; exact ⟨(well_op w0).told, (well_op w0).down⟩
    have f1 : d1.files = [(walD 1, newF 17)] := by rw [hd1]; rfl
    rw [← hd1] at hmk hwfm
    refine cg_frame hmk [3, 2] rfl ?_ (by rw [wal1]; rfl) ?_
    · simp only [go_sem, seval, dOwn]; try trivial
    rintro sv own' ⟨rfl, rfl⟩
    refine ⟨Nat.le_refl _, ?_⟩
    simp only [go_sem, seval, dOwn]
    refine cg_frame (rhdr_fun 1 7) [] rfl trivial rfl ?_
    rintro sv own' ⟨rfl, rfl⟩
    refine ⟨Nat.le_refl _, ?_⟩
    simp only [go_sem, seval]
    refine cg_frame (wnew_fun d1 ⟨7, 1, 1, 0, 0, 0, 0⟩ body fb end_ (by show walD 1 ≠ []; rw [wal1]; nofun)) [3, 2] rfl ?_ rfl ?_
    · simp only [go_sem, seval, dOwn]; try trivial
    rintro sv own' ⟨rfl, rfl⟩
    refine ⟨by simp [dOwn, wOwn], ?_⟩
    obtain ⟨W0, hW0⟩ : ∃ W0, W0 = newW ⟨7, 1, 1, 0, 0, 0, 0⟩ body end_ := ⟨_, rfl⟩
    have e0 : W0.end_ = clampAt end_ := by rw [hW0]; rfl
    have n0 : W0.file = walD 1 := by rw [hW0]; rfl
    rw [← hW0]
    simp only [go_sem, seval, wOwn, wCells]
    refine cg_frame (wappend_fun d1 W0 data fd hwfm (by omega)) [3, 2, 4] rfl ?_ rfl ?_
    · simp only [go_sem, seval, wOwn, wCells]; try trivial
    rintro sv own' ⟨rfl, rfl⟩
    refine ⟨by simp [wOwn], ?_⟩
    have hcl := cutD_clamp end_ data.length
    have hflag : ((appD d1 W0 data).2.2.2 = 0) ↔ (cutD end_ data.length).isSome = true := by
      rcases hc : cutD end_ data.length with _ | ⟨l, a⟩
      · have hc' : cutD W0.end_ data.length = none := by rw [e0, hcl, hc]
        rw [append_no hc']; simp
      · have hc' : cutD W0.end_ data.length = some (l, a) := by rw [e0, hcl, hc]
        obtain ⟨d', f', ha, _⟩ := append_ok w1 (by rw [f1, n0]; exact mget_one _ _) (by simp [newF]) hc'
        rw [ha]; simp
    simp only [go_sem, seval, wOwn, wCells, bytes_length]
    refine cg_frame (rcut_fun end_ data.length (by omega)) [] rfl trivial rfl ?_
    rintro sv own' ⟨rfl, rfl⟩
    refine ⟨Nat.le_refl _, ?_⟩
    rcases hc : cutD end_ data.length with _ | ⟨l, a⟩
    · have hz : ¬ (appD d1 W0 data).2.2.2 = 0 := by rw [hflag, hc]; nofun
      simp only [go_sem, seval, cutSV, bl, hz]
      refine cg_frame (awake_fun hS) [] rfl trivial rfl ?_
      rintro sv own' ⟨rfl, rfl⟩
      refine ⟨Nat.le_refl _, ?_⟩
      simp only [go_sem, seval, bl, Tryd.results3]
      exact hQ _ _ (bl true) [] (RedV.drop rfl) ⟨rfl, rfl⟩
    · have hz : (appD d1 W0 data).2.2.2 = 0 := by rw [hflag, hc]; rfl
      simp only [go_sem, seval, cutSV, bl, hz]
      refine cg_frame (awake_fun hS) [] rfl trivial rfl ?_
      rintro sv own' ⟨rfl, rfl⟩
      refine ⟨Nat.le_refl _, ?_⟩
      simp only [go_sem, seval, bl, Tryd.results3]
      exact hQ _ _ (bl true) [] (RedV.drop rfl) ⟨rfl, rfl⟩
end Go.AM
