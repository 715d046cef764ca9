/- dec.power, dec.Check, dec.wide. -/
import Derived.Test.YtagfnpdoooachaaGreatDoorTagS
import Derived.Test.YtagfnpdoooachaaGreatDoorShelf
set_option linter.unusedSimpArgs false
set_option linter.unusedVariables false
set_option maxHeartbeats 6400000
set_option maxRecDepth 100000
namespace Go.Proofs.YtagfnpdoooachaaGreatDoor
open Go.RowKit
open Lib (hid)
structure DecV where
 coef:Int
 scale:Int
def DecV.ok (d:DecV):Prop:=0≤d.scale∧d.scale≤9∧ -1000000000000000≤d.coef∧d.coef≤1000000000000000
instance (d:DecV):Decidable d.ok:=by unfold DecV.ok;infer_instance
def checkD (d:DecV):Int:=if d.ok then 0 else 1
theorem checkD_ok {d:DecV} (h:d.ok):checkD d=0:=if_pos h
theorem checkD_no {d:DecV} (h:¬ d.ok):checkD d=1:=if_neg h
def DecV.v (d:DecV):Value:=.agg #[.int .i64 d.coef,.int .i64 d.scale]
def errD (n:Int):Value:=if n=0 then .nilIface else .iface 27 (.int .i64 n)
def P10 (n:Nat):Int:=((10 ^ n:Nat):Int)
theorem P10_pos (n:Nat):0 < P10 n:=by unfold P10;exact Int.natCast_pos.2 (Nat.pow_pos (by decide))
theorem P10_succ (n:Nat):P10 (n+1)=P10 n*10:=by unfold P10;rw[Nat.pow_succ];push_cast;rfl
theorem P10_le (n:Nat) (h:n≤9):P10 n≤1000000000:=by
 unfold P10;have:10 ^ n≤10 ^ 9:=Nat.pow_le_pow_right (by decide) h
 omega
theorem power_any (n:Nat) (w:World) (hn:n≤9):Calls Tryz.prog 162 #[.int .i64 n] w fun e w'=>e=.returned (.int .i64 (P10 n))∧w'=w:=by
 go_enter Tryz.func162,Tryz.ntmps162
 go_wp2_with fail
 go_loopw [3,5] (fun o i wr=>∃ j:Nat,j≤n∧i=.int .i64 (j:Int)∧o=.int .i64 (P10 j)∧wr=w) (fun _ i _=>n - (intOf i).toNat)
 case atStart=>exact⟨0,Nat.zero_le _,rfl,rfl,rfl⟩
 case round=>
  obtain⟨j,hj,rfl,rfl,rfl⟩:=hrel
  by_cases hlt:j < n
  ·have i1:(0:Int)≤(j:Int):=Int.natCast_nonneg j;have i2:(j:Int) < (n:Int):=by omega
   have hS:=hid (P10_succ j);have h1:=P10_le j (by omega)
   have h2:=P10_pos j;generalize P10 j=p at *;have hw:wrap64 (p*10)=p*10:=by unfold wrap64;omega
   go_wp2_with fail
   go_roundw
   case rel=>exact⟨j+1,by omega,by go_num,by rw[hS.out],by first|rfl|trivial⟩
   case measure=>simp[intOf];omega
  ·obtain rfl:j=n:=by omega
   go_wp2_with fail
   go_ret
   exact⟨rfl,rfl⟩
theorem checkD_any (d:DecV) (w:World):Calls Tryz.prog 53 #[d.v] w fun e w'=>e=.returned (errD (checkD d))∧Below w.heap.size w w':=by
 obtain⟨c,s⟩:=d;have HN:Hid (¬(0≤s∧s≤9∧ -1000000000000000≤c∧c≤1000000000000000)→checkD ⟨c,s⟩=1):=hid fun h=>checkD_no h;have HY:Hid (0≤s∧s≤9∧ -1000000000000000≤c∧c≤1000000000000000→checkD ⟨c,s⟩=0):=hid fun h=>checkD_ok h;generalize checkD ⟨c,s⟩=r at *;unfold DecV.v;dsimp only;have HB:Hid (Below w.heap.size w (w.alloc (.cells #[.int .i64 c,.int .i64 s] 44))):=hid ((Below.refl _ _).alloc (Nat.le_refl _) _)
 by_cases h1:s < 0
 ·obtain rfl:r=1:=HN.out (by omega)
  go_enter Tryz.func53,Tryz.ntmps53
  go_wp2_with fail
  go_ret
  exact⟨rfl,HB.out⟩
 ·by_cases h2:9 < s
  ·obtain rfl:r=1:=HN.out (by omega)
   go_enter Tryz.func53,Tryz.ntmps53
   go_wp2_with fail
   go_ret
   exact⟨rfl,HB.out⟩
  ·by_cases h3:c < -1000000000000000
   ·obtain rfl:r=1:=HN.out (by omega)
    go_enter Tryz.func53,Tryz.ntmps53
    go_wp2_with fail
    go_ret
    exact⟨rfl,HB.out⟩
   ·by_cases h4:1000000000000000 < c
    ·obtain rfl:r=1:=HN.out (by omega)
     go_enter Tryz.func53,Tryz.ntmps53
     go_wp2_with fail
     go_ret
     exact⟨rfl,HB.out⟩
    ·obtain rfl:r=0:=HY.out (by omega)
     go_enter Tryz.func53,Tryz.ntmps53
     go_wp2_with fail
     go_ret
     exact⟨rfl,HB.out⟩
theorem wide_any (n s:Nat) (w:World) (hn:n≤1000000000000000) (hs:s≤9):Calls Tryz.prog 161 #[.int .i64 n,.int .i64 s] w fun e w'=>
 e=.returned (.tuple #[.int .u64 ((n*10 ^ s / 18446744073709551616:Nat):Int),.int .u64 ((n*10 ^ s % 18446744073709551616:Nat):Int)])∧w'=w:=by
 have HP:=hid (power_any s w hs);have hp:=P10_le s hs;have e1:P10 s=((10 ^ s:Nat):Int):=rfl;rw[e1]at HP hp;have HM:=hid (Tryz.bits_Mul64 n (10 ^ s) (by omega) (by omega) w)
 generalize 10 ^ s=p at *;clear e1;have i0:(0:Int)≤(n:Int):=Int.natCast_nonneg n;have i1:(0:Int)≤(p:Int):=Int.natCast_nonneg p;have c1:((n:Int) % 18446744073709551616)=(n:Int):=by omega
 have c2:((p:Int) % 18446744073709551616)=(p:Int):=by omega
 go_enter Tryz.func161,Tryz.ntmps161
 go_wp2_with fail
 refine HP.out.mono ?_;clear HP;rintro e w1 ⟨rfl,rfl⟩
 go_wp2_with fail
 refine HM.out.mono ?_;clear HM;rintro e w1 ⟨rfl,rfl⟩
 go_wp2_with fail
 go_ret2
 exact⟨rfl,rfl⟩
def cmpN (a b:Nat):Int:=if a < b then -1 else if a=b then 0 else 1
theorem cmpN_spec (a b:Nat):((a / 18446744073709551616 < b / 18446744073709551616∨(a / 18446744073709551616=b / 18446744073709551616∧a % 18446744073709551616 < b % 18446744073709551616))→cmpN a b= -1)∧
 (¬(a / 18446744073709551616 < b / 18446744073709551616∨(a / 18446744073709551616=b / 18446744073709551616∧a % 18446744073709551616 < b % 18446744073709551616))→(a / 18446744073709551616=b / 18446744073709551616∧a % 18446744073709551616=b % 18446744073709551616)→cmpN a b=0)∧
 (¬(a / 18446744073709551616 < b / 18446744073709551616∨(a / 18446744073709551616=b / 18446744073709551616∧a % 18446744073709551616 < b % 18446744073709551616))→¬(a / 18446744073709551616=b / 18446744073709551616∧a % 18446744073709551616=b % 18446744073709551616)→cmpN a b=1):=by
 unfold cmpN;refine⟨fun h=>if_pos (by omega),fun h k=> ?_,fun h k=> ?_⟩
 ·rw[if_neg (by omega),if_pos (by omega)]
 ·rw[if_neg (by omega),if_neg (by omega)]
def cmpD (a b:DecV):Int:=if a.coef*P10 b.scale.toNat < b.coef*P10 a.scale.toNat then -1 else if a.coef*P10 b.scale.toNat=b.coef*P10 a.scale.toNat then 0 else 1
theorem cmpD_nn (n m:Nat) (s t:Int):cmpD ⟨n,s⟩ ⟨m,t⟩=cmpN (n*10 ^ t.toNat) (m*10 ^ s.toNat):=by
 unfold cmpD cmpN P10;dsimp only;have e1:(n:Int)*((10 ^ t.toNat:Nat):Int)=((n*10 ^ t.toNat:Nat):Int):=by push_cast;rfl
 have e2:(m:Int)*((10 ^ s.toNat:Nat):Int)=((m*10 ^ s.toNat:Nat):Int):=by push_cast;rfl
 rw[e1,e2]
 congr 1
 ·exact propext ⟨fun h=>by omega,fun h=>by omega⟩
 ·congr 1
  exact propext ⟨fun h=>by omega,fun h=>by omega⟩
theorem cmpD_neg (a b s t:Int):cmpD ⟨-b,t⟩ ⟨-a,s⟩=cmpD ⟨a,s⟩ ⟨b,t⟩:=by
 unfold cmpD;dsimp only;rw[Int.neg_mul,Int.neg_mul];generalize a*P10 t.toNat=x;generalize b*P10 s.toNat=y
 by_cases h1:x < y
 ·rw[if_pos h1,if_pos (by omega)]
 ·rw[if_neg h1,if_neg (by omega)]
  by_cases h2:x=y
  ·rw[if_pos h2,if_pos (by omega)]
  ·rw[if_neg h2,if_neg (by omega)]
theorem cmpD_less (a b s t:Int) (ha:a < 0) (hb:0≤b):cmpD ⟨a,s⟩ ⟨b,t⟩= -1:=by
 unfold cmpD;dsimp only;have h1:a*P10 t.toNat < 0:=Int.mul_neg_of_neg_of_pos ha (P10_pos _);have h2:0≤b*P10 s.toNat:=Int.mul_nonneg hb (Int.le_of_lt (P10_pos _));rw[if_pos (by omega)]
theorem cmpD_more (a b s t:Int) (ha:0≤a) (hb:b < 0):cmpD ⟨a,s⟩ ⟨b,t⟩=1:=by
 unfold cmpD;dsimp only;have h1:b*P10 s.toNat < 0:=Int.mul_neg_of_neg_of_pos hb (P10_pos _);have h2:0≤a*P10 t.toNat:=Int.mul_nonneg ha (Int.le_of_lt (P10_pos _));rw[if_neg (by omega),if_neg (by omega)]
theorem compared_nn (n m s t:Nat) (w:World) (hn:n≤1000000000000000) (hm:m≤1000000000000000) (hs:s≤9) (ht:t≤9):
 Calls Tryz.prog 235 #[.agg #[.int .i64 n,.int .i64 s],.agg #[.int .i64 m,.int .i64 t]] w fun e w'=>e=.returned (.int .i64 (cmpN (n*10 ^ t) (m*10 ^ s)))∧Below w.heap.size w w':=by
 have HA:Hid (∀ W,Calls Tryz.prog 161 #[.int .i64 n,.int .i64 t] W fun e w'=>e=.returned (.tuple #[.int .u64 ((n*10 ^ t / 18446744073709551616:Nat):Int),.int .u64 ((n*10 ^ t % 18446744073709551616:Nat):Int)])∧w'=W):=hid fun W=>wide_any n t W hn ht;have HB:Hid (∀ W,Calls Tryz.prog 161 #[.int .i64 m,.int .i64 s] W fun e w'=>e=.returned (.tuple #[.int .u64 ((m*10 ^ s / 18446744073709551616:Nat):Int),.int .u64 ((m*10 ^ s % 18446744073709551616:Nat):Int)])∧w'=W):=hid fun W=>wide_any m s W hm hs;obtain⟨q1,q2,q3⟩:=cmpN_spec (n*10 ^ t) (m*10 ^ s);have HC1:=hid q1;have HC2:=hid q2;have HC3:=hid q3;clear q1 q2 q3;generalize cmpN (n*10 ^ t) (m*10 ^ s)=r at *;generalize n*10 ^ t / 18446744073709551616=a1 at *;generalize n*10 ^ t % 18446744073709551616=a0 at *;generalize m*10 ^ s / 18446744073709551616=b1 at *;generalize m*10 ^ s % 18446744073709551616=b0 at *;have i0:¬((n:Int) < 0):=by omega
 have i1:¬((m:Int) < 0):=by omega
 have j0:(0:Int)≤(n:Int):=by omega
 have HBe:Hid (Below w.heap.size w ((w.alloc (.cells #[.int .i64 n,.int .i64 s] 44)).alloc (.cells #[.int .i64 m,.int .i64 t] 44))):=hid (((Below.refl _ _).alloc (Nat.le_refl _) _).alloc (by simp) _)
 go_enter Tryz.func235,Tryz.ntmps235
 go_wp2_with fail
 refine(HA.out _).mono ?_;clear HA;rintro e w1 ⟨rfl,rfl⟩
 go_wp2_with fail
 refine(HB.out _).mono ?_;clear HB;rintro e w1 ⟨rfl,rfl⟩
 by_cases h1:a1 < b1
 ·obtain rfl:r= -1:=HC1.out (.inl h1);have k1:(a1:Int) < (b1:Int):=by omega
  go_wp2_with fail
  go_ret
  exact⟨rfl,HBe.out⟩
 ·have k1:¬((a1:Int) < (b1:Int)):=by omega
  by_cases h2:a1=b1
  ·have k2:((a1:Int) == (b1:Int))=true:=by rw[beq_iff_eq];omega
   by_cases h3:a0 < b0
   ·obtain rfl:r= -1:=HC1.out (.inr ⟨h2,h3⟩);have k3:(a0:Int) < (b0:Int):=by omega
    clear h2
    go_wp2_with fail
    go_ret
    exact⟨rfl,HBe.out⟩
   ·have k3:¬((a0:Int) < (b0:Int)):=by omega
    by_cases h4:a0=b0
    ·obtain rfl:r=0:=HC2.out (by omega) ⟨h2,h4⟩
     have k4:((a0:Int) == (b0:Int))=true:=by rw[beq_iff_eq];omega
     clear h2 h4
     go_wp2_with fail
     go_ret
     exact⟨rfl,HBe.out⟩
    ·obtain rfl:r=1:=HC3.out (by omega) (by omega)
     have k4:((a0:Int) == (b0:Int))=false:=by rw[beq_eq_false_iff_ne];omega
     clear h2 h4
     go_wp2_with fail
     go_ret
     exact⟨rfl,HBe.out⟩
  ·have k2:((a1:Int) == (b1:Int))=false:=by rw[beq_eq_false_iff_ne];omega
   obtain rfl:r=1:=HC3.out (by omega) (by omega)
   clear h2
   go_wp2_with fail
   go_ret
   exact⟨rfl,HBe.out⟩
theorem compared_any (a b:DecV) (w:World) (ha:a.ok) (hb:b.ok):Calls Tryz.prog 235 #[a.v,b.v] w fun e w'=>e=.returned (.int .i64 (cmpD a b))∧Below w.heap.size w w':=by
 obtain⟨a,s⟩:=a;obtain⟨b,t⟩:=b;unfold DecV.ok at ha hb;dsimp only at ha hb;obtain⟨s',rfl⟩:∃ s':Nat,s=s':=⟨s.toNat,by omega⟩
 obtain⟨t',rfl⟩:∃ t':Nat,t=t':=⟨t.toNat,by omega⟩
 unfold DecV.v;dsimp only;have HBe:Hid (Below w.heap.size w ((w.alloc (.cells #[.int .i64 a,.int .i64 s'] 44)).alloc (.cells #[.int .i64 b,.int .i64 t'] 44))):=hid (((Below.refl _ _).alloc (Nat.le_refl _) _).alloc (by simp) _)
 by_cases h1:a < 0
 ·by_cases h2:b < 0
  ·have hw1:wrap64 (-a)= -a:=by unfold wrap64;omega
   have hw2:wrap64 (-b)= -b:=by unfold wrap64;omega
   have h2':¬((0:Int)≤b):=by omega
   have h1':¬((0:Int)≤a):=by omega
   have HC:Hid (∀ W,Calls Tryz.prog 235 #[.agg #[.int .i64 (-b),.int .i64 t'],.agg #[.int .i64 (-a),.int .i64 s']] W fun e w'=>e=.returned (.int .i64 (cmpD ⟨a,s'⟩ ⟨b,t'⟩))∧Below W.heap.size W w'):=hid fun W=>by
    have h:=compared_nn (-b).toNat (-a).toNat t' s' W (by omega) (by omega) (by omega) (by omega)
    have e1:(((-b).toNat:Nat):Int)= -b:=by omega
    have e2:(((-a).toNat:Nat):Int)= -a:=by omega
    have e3:=cmpD_nn (-b).toNat (-a).toNat t' s';rw[e1,e2,cmpD_neg]at e3;rw[e1,e2]at h;have e4:((s':Int)).toNat=s':=by omega
    have e5:((t':Int)).toNat=t':=by omega
    rw[e4,e5]at e3;rw[e3];exact h
   generalize cmpD ⟨a,s'⟩ ⟨b,t'⟩=r at*
   go_enter Tryz.func235,Tryz.ntmps235
   go_wp2_with fail
   refine(HC.out _).mono ?_;clear HC;rintro e w1 ⟨rfl,hb1⟩;have HB1:=hid (HBe.out.trans (hb1.mono (by simp;omega)))
   clear hb1
   go_wp2_with fail
   go_ret
   exact⟨rfl,HB1.out⟩
  ·have e:=hid (cmpD_less a b s' t' h1 (by omega))
   have h2':(0:Int)≤b:=by omega
   generalize cmpD ⟨a,s'⟩ ⟨b,t'⟩=r at*
   go_enter Tryz.func235,Tryz.ntmps235
   go_wp2_with fail
   go_ret
   exact⟨by rw[e.out];rfl,HBe.out⟩
 ·have h1':(0:Int)≤a:=by omega
  by_cases h2:b < 0
  ·have e:=hid (cmpD_more a b s' t' h1' h2);generalize cmpD ⟨a,s'⟩ ⟨b,t'⟩=r at*
   go_enter Tryz.func235,Tryz.ntmps235
   go_wp2_with fail
   go_ret
   exact⟨by rw[e.out];rfl,HBe.out⟩
  ·obtain⟨n,rfl⟩:∃ n:Nat,a=n:=⟨a.toNat,by omega⟩
   obtain⟨m,rfl⟩:∃ m:Nat,b=m:=⟨b.toNat,by omega⟩
   rw[cmpD_nn];exact compared_nn n m s' t' w (by omega) (by omega) (by omega) (by omega)
theorem errD_zero:errD 0=.nilIface:=rfl
theorem errD_ne {n:Int} (h:n≠0):errD n=.iface 27 (.int .i64 n):=if_neg h
theorem right_any (a b:DecV) (w:World):Calls Tryz.prog 234 #[a.v,b.v] w fun e w'=>e=.returned (.bool (decide a.ok && decide b.ok))∧Below w.heap.size w w':=by
 have HA:Hid (∀ W,Calls Tryz.prog 53 #[a.v] W fun e w'=>e=.returned (errD (checkD a))∧Below W.heap.size W w'):=hid fun W=>checkD_any a W;have HB:Hid (∀ W,Calls Tryz.prog 53 #[b.v] W fun e w'=>e=.returned (errD (checkD b))∧Below W.heap.size W w'):=hid fun W=>checkD_any b W;have ea:checkD a=if decide a.ok=true then 0 else 1:=by
  by_cases h:a.ok
  ·rw[checkD_ok h,if_pos (decide_eq_true h)]
  ·rw[checkD_no h,if_neg (by simpa using h)]
 have eb:checkD b=if decide b.ok=true then 0 else 1:=by
  by_cases h:b.ok
  ·rw[checkD_ok h,if_pos (decide_eq_true h)]
  ·rw[checkD_no h,if_neg (by simpa using h)]
 rw[ea]at HA;rw[eb]at HB;clear ea eb;generalize decide a.ok=x at *;generalize decide b.ok=y at *;obtain⟨a,s⟩:=a;obtain⟨b,t⟩:=b;unfold DecV.v at *;dsimp only at HA HB ⊢;obtain⟨W2,eW2⟩:∃ W2,W2=(w.alloc (.cells #[.int .i64 a,.int .i64 s] 44)).alloc (.cells #[.int .i64 b,.int .i64 t] 44):=⟨_,rfl⟩;have ma:Blk W2 w.heap.size 44 #[.int .i64 a,.int .i64 s]:=by rw[eW2];exact(Blk.new _ _ _).alloc _
 have mb:Blk W2 (w.heap.size+1) 44 #[.int .i64 b,.int .i64 t]:=by
  rw[eW2];have:=Blk.new (w.alloc (.cells #[.int .i64 a,.int .i64 s] 44)) 44 #[.int .i64 b,.int .i64 t];rw[World.size_alloc]at this;exact this
 have hb2:Below w.heap.size w W2:=by rw[eW2];exact((Below.refl _ _).alloc (Nat.le_refl _) _).alloc (by simp) _
 have HB2:=hid hb2;have MB:=hid mb;have EW:=hid eW2;have k0:=(ma.cell 0).trans (show _=some (.int .i64 a)from rfl);have k1:=(ma.cell 1).trans (show _=some (.int .i64 s)from rfl);clear hb2 ma mb eW2
 go_enter Tryz.func234,Tryz.ntmps234
 go_upto_region 1 with fail
 rw[←EW.out];clear EW
 go_wp2_with fail
 refine(HA.out W2).mono ?_;clear HA;rintro e w3 ⟨rfl,hb3⟩;have HB3:=hid (HB2.out.trans (hb3.mono HB2.out.size));cases x with
 | false=>
   rw[if_neg (by decide),errD_ne (by decide)]
   clear HB hb3
   go_wp2_with fail
   go_ret
   exact⟨rfl,HB3.out⟩
 | true=>
   have m3:=MB.out.below hb3 MB.out.lt;have d0:=(m3.cell 0).trans (show _=some (.int .i64 b)from rfl);have d1:=(m3.cell 1).trans (show _=some (.int .i64 t)from rfl);clear m3 hb3;rw[if_pos rfl,errD_zero]
   go_wp2_with fail
   refine(HB.out w3).mono ?_;clear HB;rintro e w4 ⟨rfl,hb4⟩;have HB4:=hid (HB3.out.trans (hb4.mono HB3.out.size));clear hb4;cases y with
   | false=>
     rw[if_neg (by decide),errD_ne (by decide)]
     go_wp2_with fail
     go_ret
     exact⟨rfl,HB4.out⟩
   | true=>
     rw[if_pos rfl,errD_zero]
     go_wp2_with fail
     go_ret
     exact⟨rfl,HB4.out⟩
def sameD (a b:DecV):Bool:=decide a.ok && decide b.ok && cmpD a b == 0
theorem sameD_any (a b:DecV) (w:World):Calls Tryz.prog 219 #[a.v,b.v] w fun e w'=>e=.returned (.bool (sameD a b))∧Below w.heap.size w w':=by
 have HA:Hid (∀ W,Calls Tryz.prog 234 #[a.v,b.v] W fun e w'=>e=.returned (.bool (decide a.ok && decide b.ok))∧Below W.heap.size W w'):=hid fun W=>right_any a b W;have HC:Hid (∀ W,(decide a.ok && decide b.ok)=true→Calls Tryz.prog 235 #[a.v,b.v] W fun e w'=>e=.returned (.int .i64 (cmpD a b))∧Below W.heap.size W w'):=hid fun W h=>by
  simp at h;exact compared_any a b W h.1 h.2
 have HR:Hid (sameD a b=((decide a.ok && decide b.ok) && cmpD a b == 0)):=hid rfl;generalize (decide a.ok && decide b.ok)=x at *;generalize cmpD a b=r at *;generalize sameD a b=z at *;obtain⟨a,s⟩:=a;obtain⟨b,t⟩:=b;unfold DecV.v at *;dsimp only at HA HC ⊢;obtain⟨W2,eW2⟩:∃ W2,W2=(w.alloc (.cells #[.int .i64 a,.int .i64 s] 44)).alloc (.cells #[.int .i64 b,.int .i64 t] 44):=⟨_,rfl⟩;have ma:Blk W2 w.heap.size 44 #[.int .i64 a,.int .i64 s]:=by rw[eW2];exact(Blk.new _ _ _).alloc _
 have mb:Blk W2 (w.heap.size+1) 44 #[.int .i64 b,.int .i64 t]:=by
  rw[eW2];have:=Blk.new (w.alloc (.cells #[.int .i64 a,.int .i64 s] 44)) 44 #[.int .i64 b,.int .i64 t];rw[World.size_alloc]at this;exact this
 have hb2:Below w.heap.size w W2:=by rw[eW2];exact((Below.refl _ _).alloc (Nat.le_refl _) _).alloc (by simp) _
 have HB2:=hid hb2;have MA:=hid ma;have MB:=hid mb;have EW:=hid eW2;have k0:=(ma.cell 0).trans (show _=some (.int .i64 a)from rfl);have k1:=(ma.cell 1).trans (show _=some (.int .i64 s)from rfl);have k2:=(mb.cell 0).trans (show _=some (.int .i64 b)from rfl);have k3:=(mb.cell 1).trans (show _=some (.int .i64 t)from rfl);clear hb2 ma mb eW2
 go_enter Tryz.func219,Tryz.ntmps219
 go_upto_region 1 with fail
 rw[←EW.out];clear EW
 go_wp2_with fail
 refine(HA.out W2).mono ?_;clear HA;rintro e w3 ⟨rfl,hb3⟩;have HB3:=hid (HB2.out.trans (hb3.mono HB2.out.size));cases x with
 | false=>
   obtain rfl:z=false:=by rw[HR.out];rfl
   clear HC hb3
   go_wp2_with fail
   go_ret
   exact⟨rfl,HB3.out⟩
 | true=>
   have m3:=MA.out.below hb3 MA.out.lt;have n3:=MB.out.below hb3 MB.out.lt;have d0:=(m3.cell 0).trans (show _=some (.int .i64 a)from rfl);have d1:=(m3.cell 1).trans (show _=some (.int .i64 s)from rfl);have d2:=(n3.cell 0).trans (show _=some (.int .i64 b)from rfl);have d3:=(n3.cell 1).trans (show _=some (.int .i64 t)from rfl);have HC3:=hid (HC.out w3 rfl);clear m3 n3 hb3 HC
   go_wp2_with fail
   refine HC3.out.mono ?_;clear HC3;rintro e w4 ⟨rfl,hb4⟩;have HB4:=hid (HB3.out.trans (hb4.mono HB3.out.size));clear hb4
   by_cases h0:r=0
   ·have q0:(r == (0:Int))=true:=by rw[beq_iff_eq];exact h0
    obtain rfl:z=true:=by rw[HR.out,q0];rfl
    clear h0
    go_wp2_with fail
    go_ret
    exact⟨rfl,HB4.out⟩
   ·have q0:(r == (0:Int))=false:=by rw[beq_eq_false_iff_ne];exact h0
    obtain rfl:z=false:=by rw[HR.out,q0];rfl
    clear h0
    go_wp2_with fail
    go_ret
    exact⟨rfl,HB4.out⟩
def nearE (whole rest unit:Int):Bool:=decide (unit < 2*rest) || (2*rest == unit && Int.tmod whole 2 == 1)
theorem nearer_any (whole rest unit sign:Int) (w:World) (h0:0≤rest) (h1:rest≤1000000000):Calls Tryz.prog 163 #[.int .i64 5,.int .i64 whole,.int .i64 rest,.int .i64 unit,.int .i64 sign] w fun e w'=>e=.returned (.bool (nearE whole rest unit))∧w'=w:=by
 have HR:Hid (nearE whole rest unit=(decide (unit < 2*rest) || (2*rest == unit && Int.tmod whole 2 == 1))):=hid rfl;have hw:wrap64 (2*rest)=2*rest:=by unfold wrap64;omega
 generalize nearE whole rest unit=z at*
 by_cases q1:unit < 2*rest
 ·obtain rfl:z=true:=by rw[HR.out,decide_eq_true q1];rfl
  go_enter Tryz.func163,Tryz.ntmps163
  go_wp2_with fail
  go_ret
  exact⟨rfl,rfl⟩
 ·by_cases q2:(2*rest == unit)=true
  ·have HR2:Hid (z=(Int.tmod whole 2 == 1)):=hid (by rw[HR.out,decide_eq_false q1,q2];rfl)
   clear HR;generalize hz:(Int.tmod whole 2 == 1)=y at *;obtain rfl:z=y:=HR2.out;cases z with
   | true=>
     go_enter Tryz.func163,Tryz.ntmps163
     go_wp2_with fail
     go_ret
     exact⟨rfl,rfl⟩
   | false=>
     go_enter Tryz.func163,Tryz.ntmps163
     go_wp2_with fail
     go_ret
     exact⟨rfl,rfl⟩
  ·have q2':(2*rest == unit)=false:=by simpa using q2
   obtain rfl:z=false:=by rw[HR.out,decide_eq_false q1,q2'];rfl
   clear q2
   go_enter Tryz.func163,Tryz.ntmps163
   go_wp2_with fail
   go_ret
   exact⟨rfl,rfl⟩
theorem tdiv_bound {b u M:Int} (hu:0 < u) (h1: -M≤b) (h2:b≤M): -M≤Int.tdiv b u∧Int.tdiv b u≤M:=by
 rcases Int.le_total 0 b with hb|hb
 ·rw[Int.tdiv_eq_ediv_of_nonneg hb];have h3:=Int.ediv_le_self u hb;have h4:=Int.ediv_nonneg hb (Int.le_of_lt hu);omega
 ·obtain⟨c,rfl⟩:∃ c,b= -c:=⟨-b,by omega⟩
  have hc:0≤c:=by omega
  rw[Int.neg_tdiv,Int.tdiv_eq_ediv_of_nonneg hc];have h3:=Int.ediv_le_self u hc;have h4:=Int.ediv_nonneg hc (Int.le_of_lt hu);omega
theorem tmod_bound {b u:Int} (hu:0 < u): -u < Int.tmod b u∧Int.tmod b u < u:=by
 rcases Int.le_total 0 b with hb|hb
 ·rw[Int.tmod_eq_emod_of_nonneg hb];have h3:=Int.emod_nonneg b (by omega:u≠0)
  have h4:=Int.emod_lt_of_pos b hu;omega
 ·obtain⟨c,rfl⟩:∃ c,b= -c:=⟨-b,by omega⟩
  have hc:0≤c:=by omega
  rw[Int.neg_tmod,Int.tmod_eq_emod_of_nonneg hc];have h3:=Int.emod_nonneg c (by omega:u≠0)
  have h4:=Int.emod_lt_of_pos c hu;omega
theorem mul_bound {s u:Int} (hu:0 < u) (hu2:u≤1000000000) (h1:s≤Int.tdiv 2000000000000000 u+1) (h2:Int.tdiv (-2000000000000000) u - 1≤s): -3000000000000000≤s*u∧s*u≤3000000000000000:=by
 rw[Int.neg_tdiv]at h2;rw[Int.tdiv_eq_ediv_of_nonneg (by decide)]at h1 h2
 have h3:=Int.ediv_mul_le 2000000000000000 (by omega:u≠0)
 have h4:=Int.mul_le_mul_of_nonneg_right h1 (Int.le_of_lt hu);have h5:=Int.mul_le_mul_of_nonneg_right h2 (Int.le_of_lt hu);rw[Int.add_mul,Int.one_mul]at h4;rw[Int.sub_mul,Int.one_mul,Int.neg_mul]at h5;omega
def swapD (a b:DecV):DecV×DecV:=if b.scale < a.scale then(b,a)else(a,b)
def sumD (a b:DecV):Int:=a.coef+Int.tdiv b.coef (P10 (b.scale - a.scale).toNat)
def farD (a b:DecV):Bool:=decide (Int.tdiv 2000000000000000 (P10 (b.scale - a.scale).toNat)+1 < sumD a b) || decide (sumD a b < Int.tdiv (-2000000000000000) (P10 (b.scale - a.scale).toNat) - 1)
def totD (a b:DecV):Int:=sumD a b*P10 (b.scale - a.scale).toNat+Int.tmod b.coef (P10 (b.scale - a.scale).toNat)
def addO (a b:DecV):Option DecV:=if farD a b then none else if totD a b < -1000000000000000∨1000000000000000 < totD a b then none else some ⟨totD a b,b.scale⟩
def addD (a b:DecV):Option DecV:=if a.ok∧b.ok then addO (swapD a b).1 (swapD a b).2 else none
def resD (o:Option DecV):Value:=.tuple #[(o.getD ⟨0,0⟩).v,errD (if o.isSome then 0 else 1)]
theorem addD_any (a b:DecV) (w:World):Calls Tryz.prog 217 #[a.v,b.v] w fun e w'=>e=.returned (resD (addD a b))∧Below w.heap.size w w':=by
 have HA:Hid (∀ W,Calls Tryz.prog 53 #[a.v] W fun e w'=>e=.returned (errD (checkD a))∧Below W.heap.size W w'):=hid fun W=>checkD_any a W;have HB:Hid (∀ W,Calls Tryz.prog 53 #[b.v] W fun e w'=>e=.returned (errD (checkD b))∧Below W.heap.size W w'):=hid fun W=>checkD_any b W;have HNo:Hid (¬ a.ok∨¬ b.ok→addD a b=none):=hid fun h=>if_neg (by rintro⟨h1,h2⟩;rcases h with h|h;exact h h1;exact h h2)
 have HYes:Hid (a.ok→b.ok→addD a b=addO (swapD a b).1 (swapD a b).2):=hid fun h1 h2=>if_pos ⟨h1,h2⟩;have HSw:Hid ((b.scale < a.scale→swapD a b=(b,a))∧(¬ b.scale < a.scale→swapD a b=(a,b))):=hid ⟨fun h=>if_pos h,fun h=>if_neg h⟩;obtain⟨W2,eW2⟩:∃ W2,W2=((w.alloc (.cells #[.int .i64 a.coef,.int .i64 a.scale] 44)).alloc (.cells #[.int .i64 b.coef,.int .i64 b.scale] 44)).alloc (.cells #[.int .i64 0,.int .i64 0] 44):=⟨_,rfl⟩;have ma:Blk W2 w.heap.size 44 #[.int .i64 a.coef,.int .i64 a.scale]:=by rw[eW2];exact((Blk.new _ _ _).alloc _).alloc _
 have mb:Blk W2 (w.heap.size+1) 44 #[.int .i64 b.coef,.int .i64 b.scale]:=by
  rw[eW2];have:=Blk.new (w.alloc (.cells #[.int .i64 a.coef,.int .i64 a.scale] 44)) 44 #[.int .i64 b.coef,.int .i64 b.scale];rw[World.size_alloc]at this;exact this.alloc _
 have mr:Blk W2 (w.heap.size+2) 44 #[.int .i64 0,.int .i64 0]:=by
  rw[eW2];have:=Blk.new ((w.alloc (.cells #[.int .i64 a.coef,.int .i64 a.scale] 44)).alloc (.cells #[.int .i64 b.coef,.int .i64 b.scale] 44)) 44 #[.int .i64 0,.int .i64 0];rw[World.size_alloc,World.size_alloc]at this;exact this
 have hb2:Below w.heap.size w W2:=by rw[eW2];exact(((Below.refl _ _).alloc (Nat.le_refl _) _).alloc (by simp) _).alloc (by simp;omega) _
 have HB2:=hid hb2;have MA:=hid ma;have MB:=hid mb;have MR:=hid mr;have EW:=hid eW2;have k0:=(ma.cell 0).trans (show _=some (.int .i64 a.coef)from rfl);have k1:=(ma.cell 1).trans (show _=some (.int .i64 a.scale)from rfl);clear hb2 ma mb mr eW2;unfold DecV.v at HA HB ⊢
 go_enter Tryz.func217,Tryz.ntmps217
 go_upto_region 1 with fail
 rw[←EW.out];clear EW
 go_wp2_with fail
 refine(HA.out W2).mono ?_;clear HA;rintro e w3 ⟨rfl,hb3⟩;have HB3:=hid (HB2.out.trans (hb3.mono HB2.out.size));have MA3:=hid (MA.out.below hb3 MA.out.lt);have MB3:=hid (MB.out.below hb3 MB.out.lt);have MR3:=hid (MR.out.below hb3 MR.out.lt);clear MA MB MR k0 k1 hb3
 by_cases ha:a.ok
 ·rw[checkD_ok ha,errD_zero];have d0:=(MB3.out.cell 0).trans (show _=some (.int .i64 b.coef)from rfl);have d1:=(MB3.out.cell 1).trans (show _=some (.int .i64 b.scale)from rfl)
  go_wp2_with fail
  refine(HB.out w3).mono ?_;clear HB d0 d1;rintro e w4 ⟨rfl,hb4⟩;have HB4:=hid (HB3.out.trans (hb4.mono HB3.out.size));have MA4:=hid (MA3.out.below hb4 MA3.out.lt);have MB4:=hid (MB3.out.below hb4 MB3.out.lt);have MR4:=hid (MR3.out.below hb4 MR3.out.lt);clear MA3 MB3 MR3 hb4
  by_cases hb:b.ok
  ·rw[checkD_ok hb,errD_zero];have HY:=hid (HYes.out ha hb);have haK:=hid ha;have hbK:=hid hb;have k0:=(MA4.out.cell 0).trans (show _=some (.int .i64 a.coef)from rfl);have k1:=(MA4.out.cell 1).trans (show _=some (.int .i64 a.scale)from rfl);have d0:=(MB4.out.cell 0).trans (show _=some (.int .i64 b.coef)from rfl);have d1:=(MB4.out.cell 1).trans (show _=some (.int .i64 b.scale)from rfl);have fa0:=MA4.out.frozen 0;have fa1:=MA4.out.frozen 1;have fb0:=MB4.out.frozen 0;have fb1:=MB4.out.frozen 1;clear HYes HNo ha hb;have hOk:Hid ((swapD a b).1.ok∧(swapD a b).2.ok∧(swapD a b).1.scale≤(swapD a b).2.scale):=hid (by
    unfold swapD;split
    ·exact⟨hbK.out,haK.out,by dsimp only;omega⟩
    ·exact⟨haK.out,hbK.out,by dsimp only;omega⟩)
   go_upto_if 29 with fail
   go_cut [] (fun wx=>Below w.heap.size w wx∧Blk wx w.heap.size 44 #[.int .i64 (swapD a b).1.coef,.int .i64 (swapD a b).1.scale]∧Blk wx (w.heap.size+1) 44 #[.int .i64 (swapD a b).2.coef,.int .i64 (swapD a b).2.scale]∧Blk wx (w.heap.size+2) 44 #[.int .i64 0,.int .i64 0])
   case first=>
    clear HY hOk
    by_cases hs:b.scale < a.scale
    ·have HE:=hid (HSw.out.1 hs);clear HSw
     go_wp2_with fail
     go_meet
     case rel=>
      rw[HE.out];have q1:w.heap.size≠w.heap.size+1:=by omega
      have q2:w.heap.size+1≠w.heap.size:=by omega
      have q3:w.heap.size+2≠w.heap.size:=by omega
      have q4:w.heap.size+2≠w.heap.size+1:=by omega
      exact⟨(((HB4.out.setCell (p:=⟨_,_,none⟩) (Nat.le_refl _) _).setCell (p:=⟨_,_,none⟩) (Nat.le_refl _) _).setCell (p:=⟨_,_,none⟩) (Nat.le_succ _) _).setCell (p:=⟨_,_,none⟩) (Nat.le_succ _) _,
       (((MA4.out.set_ 0 _).set_ 1 _).far q1 _).far q1 _,(((MB4.out.far q2 _).far q2 _).set_ 0 _).set_ 1 _,(((MR4.out.far q3 _).far q3 _).far q4 _).far q4 _⟩
    ·have HE:=hid (HSw.out.2 (by first|exact hs|exact Int.not_lt.1 hs))
     clear HSw
     go_wp2_with fail
     go_meet
     case rel=>
      rw[HE.out];exact⟨HB4.out,MA4.out,MB4.out,MR4.out⟩
   case rest=>
    obtain⟨hbc,hma,hmb,hmr⟩:=hcut;clear k0 k1 d0 d1 fa0 fa1 fb0 fb1 haK hbK HSw HB4 MA4 MB4 MR4;generalize swapD a b=pr at *;obtain⟨⟨x,s⟩,⟨y,t⟩⟩:=pr;dsimp only at hOk hma hmb HY;obtain⟨⟨p0,p1,p2,p3⟩,⟨p4,p5,p6,p7⟩,p8⟩:=hOk.out;dsimp only at p0 p1 p2 p3 p4 p5 p6 p7 p8;obtain⟨k,hk⟩:∃ k:Nat,t - s=k:=⟨(t - s).toNat,by omega⟩
    have hk9:k≤9:=by omega
    have HP:Hid (∀ W,Calls Tryz.prog 162 #[.int .i64 k] W fun e w'=>e=.returned (.int .i64 (P10 k))∧w'=W):=hid fun W=>power_any k W hk9;have hu0:=P10_pos k;have hu1:=P10_le k hk9;have hek:(t - s).toNat=k:=by omega
    have HF:Hid (addO ⟨x,s⟩ ⟨y,t⟩=if(decide (Int.tdiv 2000000000000000 (P10 k)+1 < x+Int.tdiv y (P10 k)) || decide (x+Int.tdiv y (P10 k) < Int.tdiv (-2000000000000000) (P10 k) - 1))=true then none else
     if(x+Int.tdiv y (P10 k))*P10 k+Int.tmod y (P10 k) < -1000000000000000∨1000000000000000 < (x+Int.tdiv y (P10 k))*P10 k+Int.tmod y (P10 k)then none else some ⟨(x+Int.tdiv y (P10 k))*P10 k+Int.tmod y (P10 k),t⟩):=hid (by
     unfold addO farD totD sumD;dsimp only;rw[hek])
    rw[Int.neg_tdiv]at HF;have hw1:wrap64 (t - s)=k:=by rw[hk];unfold wrap64;omega
    generalize P10 k=u at *;have hu:(u == (0:Int))=false:=by rw[beq_eq_false_iff_ne];omega
    obtain⟨hd1,hd2⟩:=tdiv_bound (b:=y) (M:=1000000000000000) hu0 p6 p7;obtain⟨hm1,hm2⟩:=tmod_bound (b:=y) hu0;obtain⟨he1,he2⟩:=tdiv_bound (b:=2000000000000000) (M:=2000000000000000) hu0 (by decide) (by decide)
    have hmb2:Int.tdiv 2000000000000000 u+1≥x+Int.tdiv y u→ -Int.tdiv 2000000000000000 u - 1≤x+Int.tdiv y u→ -3000000000000000≤(x+Int.tdiv y u)*u∧(x+Int.tdiv y u)*u≤3000000000000000:=fun h1 h2=>mul_bound hu0 hu1 h1 (by rw[Int.neg_tdiv];exact h2)
    have HMb:=hid hmb2;have k0:=(hma.cell 0).trans (show _=some (.int .i64 x)from rfl);have k1:=(hma.cell 1).trans (show _=some (.int .i64 s)from rfl);have d0:=(hmb.cell 0).trans (show _=some (.int .i64 y)from rfl);have d1:=(hmb.cell 1).trans (show _=some (.int .i64 t)from rfl);have r0:=(hmr.cell 0).trans (show _=some (.int .i64 0)from rfl);have r1:=(hmr.cell 1).trans (show _=some (.int .i64 0)from rfl);have f0:=hmr.frozen 0;have f1:=hmr.frozen 1;have HBc:=hid hbc;clear hbc hma hmb hmr hOk hmb2 hk hek;have hw2:wrap64 (Int.tdiv y u)=Int.tdiv y u:=by unfold wrap64;omega
    have hw3:wrap64 (x+Int.tdiv y u)=x+Int.tdiv y u:=by unfold wrap64;omega
    have hw4:wrap64 (Int.tdiv 2000000000000000 u)=Int.tdiv 2000000000000000 u:=by unfold wrap64;omega
    have hw5:wrap64 (Int.tdiv 2000000000000000 u+1)=Int.tdiv 2000000000000000 u+1:=by unfold wrap64;omega
    have hw6:wrap64 (-Int.tdiv 2000000000000000 u)= -Int.tdiv 2000000000000000 u:=by unfold wrap64;omega
    have hw7:wrap64 (-Int.tdiv 2000000000000000 u - 1)= -Int.tdiv 2000000000000000 u - 1:=by unfold wrap64;omega
    have hun:¬(u=0):=by omega
    have HN0:=hid (And.intro hu0 hu1);have HN1:=hid hd1;have HN2:=hid hd2;have HN3:=hid hm1;have HN4:=hid hm2;clear p0 p1 p2 p3 p4 p5 p6 p7 p8 hk9 hu0 hu1 hd1 hd2 hm1 hm2 he1 he2
    go_wp2_with fail
    refine(HP.out _).mono ?_;clear HP;rintro e w5 ⟨rfl,rfl⟩
    go_wp2_with fail
    go_quiet (fail)
    generalize Int.tdiv y u=dv at *;generalize Int.tmod y u=md at *;have HZ0:Hid (addD a b=none∨¬(Int.tdiv 2000000000000000 u+1 < x+dv)∧¬(x+dv < -Int.tdiv 2000000000000000 u - 1)):=hid (by
     by_cases q:(decide (Int.tdiv 2000000000000000 u+1 < x+dv) || decide (x+dv < -Int.tdiv 2000000000000000 u - 1))=true
     ·exact .inl (by rw[HY.out,HF.out,if_pos q])
     ·exact .inr (by simpa using q))
    by_cases q1:Int.tdiv 2000000000000000 u+1 < x+dv
    ·have HZ:Hid (addD a b=none):=hid (by rw[HY.out,HF.out,if_pos (by rw[decide_eq_true q1];rfl)])
     clear HZ0 HF HY
     go_wp2_with fail
     refine bodyPost_ret (v:=.tuple #[.agg #[.int .i64 0,.int .i64 0],.iface 27 (.int .i64 1)]) ?_ rfl ?_
     ·simp[results,Tryz.results217,go_sem,r0,r1,f0,f1]
     ·exact⟨by rw[HZ.out];rfl,((below_drewN HBc.out _).setCell (p:=⟨_,_,none⟩) (by show w.heap.size≤w.heap.size+1+1;omega) _).setCell (p:=⟨_,_,none⟩) (by show w.heap.size≤w.heap.size+1+1;omega) _⟩
    ·have q1d:decide (Int.tdiv 2000000000000000 u+1 < x+dv)=false:=decide_eq_false q1
     by_cases q2:x+dv < -Int.tdiv 2000000000000000 u - 1
     ·have HZ:Hid (addD a b=none):=hid (by rw[HY.out,HF.out,if_pos (by rw[decide_eq_true q2];exact Bool.or_true _)])
      have q2d:decide (x+dv < -Int.tdiv 2000000000000000 u - 1)=true:=decide_eq_true q2;clear HZ0 HF HY q1 q2
      go_wp2_with fail
      refine bodyPost_ret (v:=.tuple #[.agg #[.int .i64 0,.int .i64 0],.iface 27 (.int .i64 1)]) ?_ rfl ?_
      ·simp[results,Tryz.results217,go_sem,r0,r1,f0,f1]
      ·exact⟨by rw[HZ.out];rfl,((below_drewN HBc.out _).setCell (p:=⟨_,_,none⟩) (by show w.heap.size≤w.heap.size+1+1;omega) _).setCell (p:=⟨_,_,none⟩) (by show w.heap.size≤w.heap.size+1+1;omega) _⟩
     ·have HF2:Hid (addD a b=if(x+dv)*u+md < -1000000000000000∨1000000000000000 < (x+dv)*u+md then none else some ⟨(x+dv)*u+md,t⟩):=hid (by rw[HY.out,HF.out,if_neg (by rw[decide_eq_false q1,decide_eq_false q2];decide)])
      obtain⟨g1,g2⟩:=HMb.out (by omega) (by omega)
      have hu9:=HN0.out;have hm1:=HN3.out;have hm2:=HN4.out;have q2d:decide (x+dv < -Int.tdiv 2000000000000000 u - 1)=false:=decide_eq_false q2;clear HF HY HZ0 q1 q2;generalize hsu:(x+dv)*u=su at *;have hw8:wrap64 su=su:=by unfold wrap64;omega
      have hw9:wrap64 (su+md)=su+md:=by unfold wrap64;omega
      have hsu2:wrap64 ((x+dv)*u)=su:=by rw[hsu];exact hw8
      clear hu9 hm1 hm2 g1 g2 hw8 hsu
      by_cases q3:su+md < -1000000000000000
      ·have HZ:Hid (addD a b=none):=hid (by rw[HF2.out,if_pos (.inl q3)])
       clear HF2
       go_wp2_with fail
       refine bodyPost_ret (v:=.tuple #[.agg #[.int .i64 0,.int .i64 0],.iface 27 (.int .i64 1)]) ?_ rfl ?_
       ·simp[results,Tryz.results217,go_sem,r0,r1,f0,f1]
       ·exact⟨by rw[HZ.out];rfl,((below_drewN HBc.out _).setCell (p:=⟨_,_,none⟩) (by show w.heap.size≤w.heap.size+1+1;omega) _).setCell (p:=⟨_,_,none⟩) (by show w.heap.size≤w.heap.size+1+1;omega) _⟩
      ·by_cases q4:1000000000000000 < su+md
       ·have HZ:Hid (addD a b=none):=hid (by rw[HF2.out,if_pos (.inr q4)])
        clear HF2
        go_wp2_with fail
        refine bodyPost_ret (v:=.tuple #[.agg #[.int .i64 0,.int .i64 0],.iface 27 (.int .i64 1)]) ?_ rfl ?_
        ·simp[results,Tryz.results217,go_sem,r0,r1,f0,f1]
        ·exact⟨by rw[HZ.out];rfl,((below_drewN HBc.out _).setCell (p:=⟨_,_,none⟩) (by show w.heap.size≤w.heap.size+1+1;omega) _).setCell (p:=⟨_,_,none⟩) (by show w.heap.size≤w.heap.size+1+1;omega) _⟩
       ·have HZ:Hid (addD a b=some ⟨su+md,t⟩):=hid (by rw[HF2.out,if_neg (by omega)])
        clear HF2
        go_wp2_with fail
        refine bodyPost_ret (v:=.tuple #[.agg #[.int .i64 (su+md),.int .i64 t],.nilIface]) ?_ rfl ?_
        ·simp[results,Tryz.results217,go_sem,r0,r1,f0,f1]
        ·exact⟨by rw[HZ.out];rfl,((below_drewN HBc.out _).setCell (p:=⟨_,_,none⟩) (by show w.heap.size≤w.heap.size+1+1;omega) _).setCell (p:=⟨_,_,none⟩) (by show w.heap.size≤w.heap.size+1+1;omega) _⟩
  ·rw[checkD_no hb,errD_ne (by decide)]
   have r0:=(MR4.out.cell 0).trans (show _=some (.int .i64 0)from rfl);have r1:=(MR4.out.cell 1).trans (show _=some (.int .i64 0)from rfl);have f0:=MR4.out.frozen 0;have f1:=MR4.out.frozen 1;have HE:=hid (HNo.out (.inr hb));clear HNo HYes HSw hb
   go_wp2_with fail
   refine bodyPost_ret (v:=.tuple #[.agg #[.int .i64 0,.int .i64 0],.iface 27 (.int .i64 1)]) ?_ rfl ?_
   ·simp[results,Tryz.results217,go_sem,r0,r1,f0,f1]
   ·exact⟨by rw[HE.out];rfl,(HB4.out.setCell (p:=⟨_,_,none⟩) (by show w.heap.size≤w.heap.size+1+1;omega) _).setCell (p:=⟨_,_,none⟩) (by show w.heap.size≤w.heap.size+1+1;omega) _⟩
 ·rw[checkD_no ha,errD_ne (by decide)]
  have r0:=(MR3.out.cell 0).trans (show _=some (.int .i64 0)from rfl);have r1:=(MR3.out.cell 1).trans (show _=some (.int .i64 0)from rfl);have f0:=MR3.out.frozen 0;have f1:=MR3.out.frozen 1;have HE:=hid (HNo.out (.inl ha));clear HNo HYes HSw HB ha
  go_wp2_with fail
  refine bodyPost_ret (v:=.tuple #[.agg #[.int .i64 0,.int .i64 0],.iface 27 (.int .i64 1)]) ?_ rfl ?_
  ·simp[results,Tryz.results217,go_sem,r0,r1,f0,f1]
  ·exact⟨by rw[HE.out];rfl,(HB3.out.setCell (p:=⟨_,_,none⟩) (by show w.heap.size≤w.heap.size+1+1;omega) _).setCell (p:=⟨_,_,none⟩) (by show w.heap.size≤w.heap.size+1+1;omega) _⟩
end Go.Proofs.YtagfnpdoooachaaGreatDoor
