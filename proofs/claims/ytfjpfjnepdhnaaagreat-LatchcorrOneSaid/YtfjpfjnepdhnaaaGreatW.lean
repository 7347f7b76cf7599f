/- . -/
import Derived.Test.YtfjpfjnepdhnaaaGreatR1
import Derived.Test.YtfjpfjnepdhnaaaGreatProg
import Derived.WalkKit
import Derived.ProofKit
import Derived.Maps.OwnSet
import Derived.DeepKeys
import Derived.WideKeyPair
import Derived.Deep.RegionHeld3
import Derived.Deep.AppendLies
import Derived.Deep.QuietTactic
import Derived.BigQuiet
import Derived.StillTailTactics
import Derived.Deep.RegionLaw
namespace Go.Proofs.YtfjpfjnepdhnaaaGreat
open Go Go.RowKit
set_option linter.unusedVariables false
set_option linter.unusedSimpArgs false
set_option linter.unusedSectionVars false
section
structure Hd(p:Prop):Prop where
 out:p
def lA{α:Type}(P:Program)(k e:TypeId)(enc:α->Value)(b n:Nat)(m:α->Option Int)(w:World):Prop:=
 ∃D:DataW Unit,w.ownsMap P k (plainElem P e) b n D/\∀x kl,keyOf P k (enc x)=some kl->Maps.has D kl=(m x).isSome/\∀c,m x=some c->D.atKey kl (.lit (.int .i64 0)) = .lit (.int .i64 c)
section
variable {α:Type} [DecidableEq α] {enc:α->Value} {P:Program} {k e b n:Nat} {m:α->Option Int} {w:World}
theorem lA.made:lA P k e enc w.heap.size 0 (fun _=>none) (w.alloc (.map #[] 0)):=
 ⟨.map [],World.ownsMap_made w P k _,fun v kl _=>⟨rfl,fun c h=>by cases h⟩⟩
theorem lA.lt(h:lA P k e enc b n m w):b<w.heap.size:=by
 obtain⟨D,h1,_⟩:=h
 exact h1.lt
theorem lA.kept{w':World}{row:Option Nat}(h:lA P k e enc b n m w)(hg:w.grownBy w' row)(hne:some b≠row):lA P k e enc b n m w':=by
 obtain⟨D,h1,h2⟩:=h
 exact⟨D,h1.kept hg hne,h2⟩
theorem lA.look{t:TypeId}(h:lA P k e enc b n m w)(K:Maps.Keyed P k)(ht:P.underlying t=some (.map k e))(he:P.underlying e=some (.int .i64))(hz:(zeroValue e).run P w = .ok (.int .i64 0) w){x:α}{kl:Lit}(hkey:keyOf P k (enc x)=some kl):
  (Instr.lookup t (.map (some b)) (enc x) true).run P w = .ok (.tuple #[.int .i64 ((m x).getD 0),.bool (m x).isSome]) w:=by
 obtain⟨D,h1,h2⟩:=h
 obtain⟨v,ps,hrun,hv⟩:=h1.look_ok K ht hz (plainElem_int he (by decide)) hkey
 obtain⟨c,rfl,hc,hw⟩:=plainElem_int_inv he hv
 obtain⟨q1,q2⟩:=h2 x kl hkey
 rw[hrun,q1]
 have:c=(m x).getD 0:=by
  cases hm:m x with
  |some d=>
   have:=q2 d hm
   rw[this]at hc
   simpa using(congrArg Prod.fst hc).symm
  |none=>
   rw[hm]at q1
   rw[Maps.atKey_of_not_has q1]at hc
   simpa using(congrArg Prod.fst hc).symm
 rw[this]
theorem lA.put{w':World}{x:α}{kl:Lit}{c:Int}(hi:∀a b:α,enc a=enc b->a=b)(hkey:keyOf P k (enc x)=some kl)(K:Maps.Keyed P k){D:DataW Unit}(h1:w.ownsMap P k (plainElem P e) b n D)(h2:∀y kl,keyOf P k (enc y)=some kl->Maps.has D kl=(m y).isSome/\∀c,m y=some c->D.atKey kl (.lit (.int .i64 0)) = .lit (.int .i64 c))
  (h3:w'.ownsMap P k (plainElem P e) b (n+1) (D.put kl (.lit (.int .i64 c)))):lA P k e enc b (n+1) (fun v=>if v=x then some c else m v) w':=by
 refine⟨_,h3,fun v kl' hv=>?_⟩
 by_cases hvk:v=x
 .subst hvk
  rw[hkey]at hv
  cases hv
  simp only[↓reduceIte]
  exact⟨Maps.has_put_same h1.isMap (K.key hkey) _,fun d hd=>by cases hd;exact Maps.atKey_put_same h1.isMap (K.key hkey) _ _⟩
 .have hne:kl'≠kl:=fun e=>hvk (hi _ _ (K.inj (e▸hv) hkey))
  simp only[if_neg hvk]
  obtain⟨q1,q2⟩:=h2 v kl' hv
  exact⟨by rw[Maps.has_put_other hne];exact q1,fun d hd=>by rw[Maps.atKey_put_other hne];exact q2 d hd⟩
end
theorem MM:laidOutB Tryz.prog=true:=by kernel_rfl
theorem xS:Maps.Keyed Tryz.prog 133:=Maps.Keyed.of_law (deep_law_laid MM (m:=2) (by omega) (by decide +kernel) (by kernel_rfl) (by kernel_rfl))
theorem Ft{a b:Int}(wa:(Lit.int .i64 a).wf=true)(wb:(Lit.int .i64 b).wf=true):∃kl,keyOf Tryz.prog 133 (.agg #[.int .i64 a,.int .i64 b])=some kl:=
 ⟨_,WideMaps.keyOf_pair (e:=3) (q:=.i64) ⟨Tryz.underlying133,by kernel_rfl,by kernel_rfl,by kernel_rfl⟩ Tryz.underlying3 (⟨Tryz.prog.types.size-1,by kernel_rfl⟩) wa wb⟩
theorem LY(w:World):(zeroValue 3).run Tryz.prog w = .ok (.int .i64 0) w:=by kernel_rfl
def AD(p:Int×Int):Value:=.agg #[.int .i64 p.1,.int .i64 p.2]
theorem Hp:∀a b:Int×Int,AD a=AD b->a=b:=by rintro⟨a,b⟩ ⟨c,d⟩ h;simp[AD]at h;simp[h]
end
section
def cZ(y:Int):Int:=if y%2=0 then y+1 else y-1
theorem LZ{y:Int}(h0:0<=y)(h1:y<=1000000):bits BinOp.xor IntKind.i64 y 1=cZ y:=by
 obtain⟨n,rfl⟩:=Int.eq_ofNat_of_zero_le h0
 have hx:((BitVec.ofInt 64 (n:Int))^^^(BitVec.ofInt 64 1)).toNat=n^^^1:=by
  rw[BitVec.toNat_xor]
  have h1:(BitVec.ofInt 64 (n:Int)).toNat=n:=by
   rw[BitVec.toNat_ofInt]
   omega
  have h3:(BitVec.ofInt 64 1).toNat=1:=by decide
  rw[h1,h3]
 show IntKind.wrap .i64 (((BitVec.ofInt 64 (n:Int))^^^(BitVec.ofInt 64 1)).toNat:Int)=_
 rw[hx]
 have hn:((n^^^1:Nat):Int)=cZ n:=by
  unfold cZ
  have h1:(n^^^1)/2=n/2:=by
   have:=Nat.xor_div_two_pow (a:=n) (b:=1) (n:=1)
   simpa using this
  have h2:(n^^^1)%2=(n+1)%2:=by
   have:=Nat.xor_mod_two_pow (a:=n) (b:=1) (n:=1)
   simp only[Nat.pow_one]at this
   have h2:n%2=0\/n%2=1:=by omega
   rcases h2 with h|h
   .rw[this,h]
    have:(0^^^1%2:Nat)=1:=by decide
    rw[this];omega
   .rw[this,h]
    have:(1^^^1%2:Nat)=0:=by decide
    rw[this];omega
  split<;>omega
 rw[hn,IntKind.wrap_i64]
 unfold cZ
 split<;>omega
def jz(x y:Int):Option Int:=if x=0\/y=0\/x=cZ y then some 0 else if x=1\/x=y then some y else if y=1 then some x else none
set_option maxRecDepth 1000000 in
set_option maxHeartbeats 4000000 in
theorem Jp(Bb:Nat)(x y v:Int)(w:World)(hx:0<=x)(hy:0<=y)(hx2:x<=100000)(hy2:y<=100000)(h:jz x y=some v):
  Calls Tryz.prog 72 #[.pointer (some ⟨Bb,0,none⟩),.int .i64 x,.int .i64 y] w fun e w'=>e = .returned (.int .i64 v)/\w'=w:=by
 have hxor:=LZ hy (by omega)
 unfold jz at h
 by_cases h0:x=0
 .rw[if_pos (.inl h0)]at h;cases h
  subst h0
  go_enter Tryz.func72,Tryz.ntmps72
  go_wp2
  go_ret
  exact⟨rfl,rfl⟩
 have e0:(x==0)=false:=beq_false_of_ne h0
 by_cases h1:y=0
 .rw[if_pos (.inr (.inl h1))]at h;cases h
  subst h1
  clear hxor
  go_enter Tryz.func72,Tryz.ntmps72
  go_wp2
  go_ret
  exact⟨rfl,rfl⟩
 have e1:(y==0)=false:=beq_false_of_ne h1
 by_cases h2:x=cZ y
 .rw[if_pos (.inr (.inr h2))]at h;cases h
  have e2:(x==cZ y)=true:=by rw[h2];simp
  have K:=Hd.mk h2
  clear h2
  go_enter Tryz.func72,Tryz.ntmps72
  go_wp2
  go_ret
  exact⟨rfl,rfl⟩
 have e2:(x==cZ y)=false:=beq_false_of_ne h2
 rw[if_neg (by rintro(q|q|q)<;>contradiction)]at h
 by_cases h3:x=1
 .rw[if_pos (.inl h3)]at h;cases h
  subst h3
  clear h2
  go_enter Tryz.func72,Tryz.ntmps72
  go_wp2
  go_ret
  exact⟨rfl,rfl⟩
 have e3:(x==1)=false:=beq_false_of_ne h3
 by_cases h4:x=y
 .rw[if_pos (.inr h4)]at h;cases h
  subst h4
  clear h2
  go_enter Tryz.func72,Tryz.ntmps72
  go_wp2
  go_ret
  exact⟨rfl,rfl⟩
 have e4:(x==y)=false:=beq_false_of_ne h4
 rw[if_neg (by rintro(q|q)<;>contradiction)]at h
 by_cases h5:y=1
 .rw[if_pos h5]at h;cases h
  subst h5
  clear h2 h4
  go_enter Tryz.func72,Tryz.ntmps72
  go_wp2
  go_ret
  exact⟨rfl,rfl⟩
 .rw[if_neg h5]at h;cases h
end
section
def iY(l:List (Int×Int)):List Value:=l.flatMap fun g=>[.int .i64 g.1,.int .i64 g.2]
theorem Ht(l:List (Int×Int))(p:Int×Int):iY (l++[p])=iY l++[.int .i64 p.1,.int .i64 p.2]:=by simp[iY,List.flatMap_append]
structure Ga(Bb Mb base:Nat)(i:Int)(A1:Option Addr)(l c1:Nat)(s3 s4 va:Value)(ands:List (Int×Int))(m:Int×Int->Option Int)(w:World):Prop where
 blk:w.heap[Bb]?=some (.cells #[.int .i64 i,.slice A1 l c1,va,s3,s4,.map (some Mb)] 115 (0,0))
 own:w.ownsRow base 50 2 va ands.length (iY ands)
 map:lA Tryz.prog 133 3 AD Mb ands.length m w
 ne:Mb≠Bb
 lt:base<=Bb
theorem qj{x y:Int}(h:jz x y=none):x≠0/\y≠0/\x≠cZ y/\x≠1/\x≠y/\y≠1:=by
 unfold jz at h
 split at h
 .cases h
 .rename_i h1
  split at h
  .cases h
  .rename_i h2
   split at h
   .cases h
   .rename_i h3
    exact⟨fun e=>h1 (.inl e),fun e=>h1 (.inr (.inl e)),fun e=>h1 (.inr (.inr e)),fun e=>h2 (.inl e),fun e=>h2 (.inr e),h3⟩
theorem oW{x:Int}(h0:0<=x)(h1:x<=1000000):(Lit.int .i64 x).wf=true:=WalkArith.wf_i64 (by omega)
set_option maxRecDepth 1000000 in
set_option maxHeartbeats 4000000 in
theorem LG{Bb Mb base:Nat}{i:Int}{A1:Option Addr}{l c1:Nat}{s3 s4 va:Value}{ands:List (Int×Int)}{m:Int×Int->Option Int}{w:World}(hB:Ga Bb Mb base i A1 l c1 s3 s4 va ands m w)(x y c p q:Int)(hx:0<=x)(hy:0<=y)(hx2:x<=100000)(hy2:y<=100000)
  (h:jz x y=none) (hpq:(p=x/\q=y/\y<x)\/(p=y/\q=x/\x<y)) (hm:m (p,q)=some c) :
  Calls Tryz.prog 72 #[.pointer (some ⟨Bb,0,none⟩),.int .i64 x,.int .i64 y] w fun e w'=>e = .returned (.int .i64 c)/\Below w.heap.size w w':=by
 obtain⟨h0,h1,h2,h3,h4,h5⟩:=qj h
 clear h
 have hxor:=LZ hy (by omega)
 have d0:(x==0)=false:=beq_false_of_ne h0
 have d1:(y==0)=false:=beq_false_of_ne h1
 have d2:(x==1)=false:=beq_false_of_ne h3
 have d3:(x==y)=false:=beq_false_of_ne h4
 have d4:(y==1)=false:=beq_false_of_ne h5
 have d5:(x==cZ y)=false:=beq_false_of_ne h2
 have hlt:=lt_of_block hB.blk
 have b5:w.cell? ⟨Bb,5,none⟩=some (.map (some Mb)):=by simp[World.cell?,hB.blk]
 obtain⟨kl,hkl⟩:=Ft (a:=p) (b:=q) (by rcases hpq with⟨rfl,rfl,_⟩|⟨rfl,rfl,_⟩<;>exact oW (by assumption) (by omega)) (by rcases hpq with⟨rfl,rfl,_⟩|⟨rfl,rfl,_⟩<;>exact oW (by assumption) (by omega))
 have hlk:∀n,(Instr.lookup 113 (.map (some Mb)) (.agg #[.int .i64 p,.int .i64 q]) true).run Tryz.prog ((w.alloc (.cells #[.int .i64 p,.int .i64 q] 133)).drewN n) = .ok (.tuple #[.int .i64 c,.bool true]) ((w.alloc (.cells #[.int .i64 p,.int .i64 q] 133)).drewN n):=by
  intro n
  have hk:lA Tryz.prog 133 3 AD Mb ands.length m ((w.alloc (.cells #[.int .i64 p,.int .i64 q] 133)).drewN n):=(hB.map.kept (World.grownBy_alloc w _ none) (by simp)).kept (row:=none) ⟨rfl,rfl,rfl,Nat.le_refl _,fun _ _ _=>rfl⟩ (by simp)
  have:=hk.look (x:=(p,q)) xS Tryz.underlying113 Tryz.underlying3 (LY _) hkl
  rw[hm]at this
  exact this
 have K:=Hd.mk hB
 clear hB h0 h1 h2 h3 h4 h5
 have hfin:∀n,Below w.heap.size w ((w.alloc (.cells #[.int .i64 p,.int .i64 q] 133)).drewN n):=fun n=>((Below.refl _ w).alloc (Nat.le_refl _) _).trans ⟨rfl,rfl,rfl,Nat.le_refl _,fun _ _=>rfl⟩
 rcases hpq with⟨rfl,rfl,hlt'⟩|⟨rfl,rfl,hlt'⟩
 .go_enter Tryz.func72,Tryz.ntmps72
  go_wp2
  go_quiet (fail)
  go_wp2
  go_ret
  exact⟨rfl,hfin _⟩
 .go_enter Tryz.func72,Tryz.ntmps72
  go_wp2
  go_quiet (fail)
  go_wp2
  go_ret
  exact⟨rfl,hfin _⟩
end
section
theorem MO:∃i:TypeInfo,Tryz.prog.info? 50=some i/\i.zero=some (.agg #[.int .i64 0,.int .i64 0])/\i.size=2/\i.bytes=16:=by
 have h1:(Tryz.prog.info? 50).map (fun i=>(i.size,i.bytes))=some (2,16):=by kernel_rfl
 have h2:(Tryz.prog.info? 50).bind (fun i=>i.zero)=some (.agg #[.int .i64 0,.int .i64 0]):=by kernel_rfl
 cases h:Tryz.prog.info? 50 with
 |none=>rw[h]at h1;cases h1
 |some i=>
  rw[h]at h1 h2
  simp only[Option.map_some,Option.some.injEq,Prod.mk.injEq,Option.bind_some]at h1 h2
  exact⟨i,rfl,h2,h1.1,h1.2⟩
theorem cw{w:World}{b o:Nat}{cs:Array Value}{t:TypeId}{u:Value}(h:w.heap[b]?=some (.cells cs t (0,0)))(ho:o<cs.size):(w.setCell ⟨b,o,none⟩ u).heap[b]?=some (.cells (cs.setIfInBounds o u) t (0,0)):=by
 have hlt:=lt_of_block h
 have h':w.heap[b] = .cells cs t (0,0):=by simpa[Array.getElem?_eq_getElem hlt]using h
 show(w.heap.modify b _)[b]?=_
 rw[Array.getElem?_eq_getElem (by simpa using hlt),Array.getElem_modify_self,h']
 rfl
structure Left(B:Nat->Prop)(w w':World):Prop where
 os:w'.os=w.os
 tape:w'.tape=w.tape
 output:w'.output=w.output
 size:w.heap.size<=w'.heap.size
 block:∀k,k<w.heap.size->¬B k->w'.heap[k]?=w.heap[k]?
theorem Left.refl(B:Nat->Prop)(w:World):Left B w w:=⟨rfl,rfl,rfl,Nat.le_refl _,fun _ _ _=>rfl⟩
theorem Left.trans{B:Nat->Prop}{a b c:World}(h:Left B a b)(k:Left B b c):Left B a c:=
 ⟨k.os.trans h.os,k.tape.trans h.tape,k.output.trans h.output,Nat.le_trans h.size k.size,fun i hi hn=>(k.block i (Nat.lt_of_lt_of_le hi h.size) hn).trans (h.block i hi hn)⟩
theorem Left.mono{B B':Nat->Prop}{a b:World}(h:Left B a b)(hb:∀k,B k->B' k):Left B' a b:=⟨h.os,h.tape,h.output,h.size,fun k hk hn=>h.block k hk fun q=>hn (hb k q)⟩
theorem Left.of_below{B:Nat->Prop}{a b:World}(h:Below a.heap.size a b):Left B a b:=⟨h.os,h.tape,h.output,h.size,fun k hk _=>h.block k hk⟩
theorem Left.of_grown{B:Nat->Prop}{a b:World}{row:Option Nat}(h:a.grownBy b row)(hr:∀k,row=some k->B k):Left B a b:=
 ⟨h.os,h.tape,h.output,h.size,fun k hk hn=>h.block k hk fun e=>hn (hr k e.symm)⟩
theorem J7{Bb Mb base:Nat}{i:Int}{A1:Option Addr}{l c1:Nat}{s3 s4 va:Value}{ands:List (Int×Int)}{m:Int×Int->Option Int}{w wA w1:World}(hB:Ga Bb Mb base i A1 l c1 s3 s4 va ands m w){p q:Int}{gg cap:Nat}
  (hA:Below w.heap.size w wA) (hp0:wA.cell? ⟨w.heap.size,0,none⟩=some (.int .i64 p)) (hp1:wA.cell? ⟨w.heap.size,1,none⟩=some (.int .i64 q))
  (hown:w1.ownsRow base 50 2 (.slice (some ⟨gg,0,none⟩) (ands.length+1) cap) (ands.length+1) (iY ands++[.int .i64 p,.int .i64 q])) (hg:wA.grownBy w1 va.ownBlock) (hat:va.ownBlock=some gg\/w.heap.size<=gg) :
  (w1.setCell ⟨Bb,2,none⟩ (.slice (some ⟨gg,0,none⟩) (ands.length+1) cap)).heap[Bb]?=some (.cells #[.int .i64 i,.slice A1 l c1,.slice (some ⟨gg,0,none⟩) (ands.length+1) cap,s3,s4,.map (some Mb)] 115 (0,0)) /\
  (w1.setCell ⟨Bb,2,none⟩ (.slice (some ⟨gg,0,none⟩) (ands.length+1) cap)).ownsRow base 50 2 (.slice (some ⟨gg,0,none⟩) (ands.length+1) cap) (ands.length+1) (iY (ands++[(p,q)])) /\
  lA Tryz.prog 133 3 AD Mb ands.length m (w1.setCell ⟨Bb,2,none⟩ (.slice (some ⟨gg,0,none⟩) (ands.length+1) cap)) /\
  (w1.setCell ⟨Bb,2,none⟩ (.slice (some ⟨gg,0,none⟩) (ands.length+1) cap)).cell? ⟨w.heap.size,0,none⟩=some (.int .i64 p) /\
  (w1.setCell ⟨Bb,2,none⟩ (.slice (some ⟨gg,0,none⟩) (ands.length+1) cap)).cell? ⟨w.heap.size,1,none⟩=some (.int .i64 q) /\
  Left (fun k=>k=Bb\/va.ownBlock=some k) w (w1.setCell ⟨Bb,2,none⟩ (.slice (some ⟨gg,0,none⟩) (ands.length+1) cap)):=by
 have hlt:=lt_of_block hB.blk
 have aB:some Bb≠va.ownBlock:=fun e=>by
  rcases hB.own.2 with⟨rfl,_⟩|⟨g,cap,cur,rfl,_,hg,_⟩
  .cases e
  .have:Bb=g:=by simpa[Value.ownBlock]using e
   subst this
   rw[hB.blk]at hg
   simp at hg
 have aH:some w.heap.size≠va.ownBlock:=fun e=>by
  have:=(hB.own.lt _ e.symm).2
  omega
 have aM:some Mb≠va.ownBlock:=fun e=>by
  obtain⟨D,⟨es,clock,hm,_⟩,_⟩:=hB.map
  rcases hB.own.2 with⟨rfl,_⟩|⟨g,cap,cur,rfl,_,hg,_⟩
  .cases e
  .have:Mb=g:=by simpa[Value.ownBlock]using e
   subst this
   rw[hm]at hg
   simp at hg
 have hMlt:=hB.map.lt
 have hw1:w1.heap[Bb]?=some (.cells #[.int .i64 i,.slice A1 l c1,va,s3,s4,.map (some Mb)] 115 (0,0)):=by
  rw[hg.block Bb (Nat.lt_of_lt_of_le hlt hA.size) aB,hA.block Bb hlt]
  exact hB.blk
 have hset:∀k,k≠Bb->(w1.setCell ⟨Bb,2,none⟩ (.slice (some ⟨gg,0,none⟩) (ands.length+1) cap)).heap[k]?=w1.heap[k]?:=fun k hk=>Below.heap_setCell _ _ _ _ hk
 have hmap:lA Tryz.prog 133 3 AD Mb ands.length m w1:=((hB.map.kept (row:=none) ⟨hA.os,hA.tape,hA.output,hA.size,fun k hk _=>hA.block k hk⟩ (by simp)).kept hg aM)
 refine⟨by have:=cw (u:=.slice (some ⟨gg,0,none⟩) (ands.length+1) cap) hw1 (o:=2) (by simp);simpa using this,?_,?_,?_,?_,?_⟩
 .rw[Ht]
  refine ownsRow_setCell_other hown (fun e=>?_) _
  have e':gg=Bb:=by simpa[Value.ownBlock]using e
  rcases hat with h|h
  .rw[e']at h;exact aB h.symm
  .omega
 .obtain⟨D,d1,d2⟩:=hmap
  exact⟨D,d1.setCell (by show Mb≠Bb;exact hB.ne) _,d2⟩
 .rw[World.cell?_of_block (a:=⟨w.heap.size,0,none⟩) (hset _ (by show w.heap.size≠Bb;omega))]
  exact hg.cell hp0 aH
 .rw[World.cell?_of_block (a:=⟨w.heap.size,1,none⟩) (hset _ (by show w.heap.size≠Bb;omega))]
  exact hg.cell hp1 aH
 .refine⟨hg.os.trans hA.os,hg.tape.trans hA.tape,hg.output.trans hA.output,?_,fun k hk hn=>?_⟩
  .have:=hA.size;have:=hg.size;simp;omega
  .rw[hset k (fun e=>hn (.inl e)),hg.block k (Nat.lt_of_lt_of_le hk hA.size) (fun e=>hn (.inr e.symm)),hA.block k hk]
end
section
set_option maxRecDepth 1000000 in
set_option maxHeartbeats 4000000 in
theorem Ox{Bb Mb base:Nat}{i:Int}{A1:Option Addr}{l c1:Nat}{s3 s4 va:Value}{ands:List (Int×Int)}{m:Int×Int->Option Int}{w:World}(hB:Ga Bb Mb base i A1 l c1 s3 s4 va ands m w)(x y p q:Int)(hx:0<=x)(hy:0<=y)(hx2:x<=100000)(hy2:y<=100000)
  (hi:0<=i) (hi2:i<=1000) (hl:l<=1000) (hn:ands.length<=1000)
  (h:jz x y=none) (hpq:p=x/\q=y/\y<x) (hm:m (p,q)=none) (hq0:0<=q) (hq1:q<=100000) (hp0:0<=p) (hp1:p<=100000) :
  Calls Tryz.prog 72 #[.pointer (some ⟨Bb,0,none⟩),.int .i64 x,.int .i64 y] w fun e w'=>e = .returned (.int .i64 (2*(i+l+(ands.length+1))))/\(∃va',Ga Bb Mb base i A1 l c1 s3 s4 va' (ands++[(p,q)]) (fun z=>if z=(p,q) then some (2*(i+l+(ands.length+1))) else m z) w'/\(va'.ownBlock=va.ownBlock\/∀k,va'.ownBlock=some k->w.heap.size<=k))/\Left (fun k=>k=Bb\/k=Mb\/va.ownBlock=some k) w w':=by
 obtain⟨h0,h1,h2,h3,h4,h5⟩:=qj h
 clear h
 have hxor:=LZ hy (by omega)
 have d0:(x==0)=false:=beq_false_of_ne h0
 have d1:(y==0)=false:=beq_false_of_ne h1
 have d2:(x==1)=false:=beq_false_of_ne h3
 have d3:(x==y)=false:=beq_false_of_ne h4
 have d4:(y==1)=false:=beq_false_of_ne h5
 have d5:(x==cZ y)=false:=beq_false_of_ne h2
 have hlt:=lt_of_block hB.blk
 have b0:w.cell? ⟨Bb,0,none⟩=some (.int .i64 i):=by simp[World.cell?,hB.blk]
 have b1:w.cell? ⟨Bb,1,none⟩=some (.slice A1 l c1):=by simp[World.cell?,hB.blk]
 have b2:w.cell? ⟨Bb,2,none⟩=some va:=by simp[World.cell?,hB.blk]
 have b5:w.cell? ⟨Bb,5,none⟩=some (.map (some Mb)):=by simp[World.cell?,hB.blk]
 have f2:w.frozen? ⟨Bb,2,none⟩=false:=by simp[World.frozen?,hB.blk]
 obtain⟨kl,hkl⟩:=Ft (a:=p) (b:=q) (by rcases hpq with⟨rfl,rfl,_⟩;exact oW (by assumption) (by omega)) (by rcases hpq with⟨rfl,rfl,_⟩;exact oW (by assumption) (by omega))
 have hlk:∀n,(Instr.lookup 113 (.map (some Mb)) (.agg #[.int .i64 p,.int .i64 q]) true).run Tryz.prog ((w.alloc (.cells #[.int .i64 p,.int .i64 q] 133)).drewN n) = .ok (.tuple #[.int .i64 0,.bool false]) ((w.alloc (.cells #[.int .i64 p,.int .i64 q] 133)).drewN n):=by
  intro n
  have hk:lA Tryz.prog 133 3 AD Mb ands.length m ((w.alloc (.cells #[.int .i64 p,.int .i64 q] 133)).drewN n):=(hB.map.kept (World.grownBy_alloc w _ none) (by simp)).kept (row:=none) ⟨rfl,rfl,rfl,Nat.le_refl _,fun _ _ _=>rfl⟩ (by simp)
  have:=hk.look (x:=(p,q)) xS Tryz.underlying113 Tryz.underlying3 (LY _) hkl
  rw[hm]at this
  exact this
 have hown:=hB.own
 have hbl:=hB.lt
 obtain⟨i0,hi0,hz0,hz1,hz2⟩:=MO
 have aB:some Bb≠va.ownBlock:=fun e=>by
  rcases hB.own.2 with⟨rfl,_⟩|⟨g,cap,cur,rfl,_,hg,_⟩
  .cases e
  .have:Bb=g:=by simpa[Value.ownBlock]using e
   subst this
   rw[hB.blk]at hg
   simp at hg
 have aH:some w.heap.size≠va.ownBlock:=fun e=>by
  have:=(hB.own.lt _ e.symm).2
  omega
 have K:=Hd.mk hB
 clear hB h0 h1 h2 h3 h4 h5
 obtain⟨rfl,rfl,hlt'⟩:=hpq
 go_enter Tryz.func72,Tryz.ntmps72
 go_wp2
 go_quiet (fail)
 go_wp2
 clear hlk
 have ownQ:∀n,((w.alloc (.cells #[.int .i64 p,.int .i64 q] 133)).drewN n).ownsRow base 50 2 va ands.length (iY ands):=fun n=>(hown.alloc _)
 have hnew:∀n o,(((w.alloc (.cells #[.int .i64 p,.int .i64 q] 133)).drewN n).alloc o).heap[w.heap.size+1]?=some o:=fun n o=>by
  have:w.heap.size+1=((w.alloc (.cells #[.int .i64 p,.int .i64 q] 133)).drewN n).heap.size:=by simp
  rw[this];exact Array.getElem?_push_size
 have fQ1:∀n,(((w.alloc (.cells #[.int .i64 p,.int .i64 q] 133)).drewN n).drew).frozen? ⟨Bb,2,none⟩=false:=fun n=>(World.frozen?_of_block (a:=⟨Bb,2,none⟩) (show _=w.heap[Bb]? from Below.heap_alloc w _ Bb hlt)).trans f2
 have fQ2:∀n o,(((w.alloc (.cells #[.int .i64 p,.int .i64 q] 133)).drewN n).alloc o).frozen? ⟨Bb,2,none⟩=false:=fun n o=>(World.frozen?_of_block (a:=⟨Bb,2,none⟩) ((Below.heap_alloc ((w.alloc (.cells #[.int .i64 p,.int .i64 q] 133)).drewN n) o Bb (by simp;omega)).trans (Below.heap_alloc w _ Bb hlt))).trans f2
 have cQ2:∀n o,(((w.alloc (.cells #[.int .i64 p,.int .i64 q] 133)).drewN n).alloc o).cell? ⟨Bb,2,none⟩=some va:=fun n o=>(World.cell?_of_block (a:=⟨Bb,2,none⟩) ((Below.heap_alloc ((w.alloc (.cells #[.int .i64 p,.int .i64 q] 133)).drewN n) o Bb (by simp;omega)).trans (Below.heap_alloc w _ Bb hlt))).trans b2
 go_region_law
  ((refine step_append_lies _ (by rfl) _ _ _ (by rfl) base 50 i0 _ 2 16 Tryz.underlying23 hi0 hz0 hz1 hz2 rfl (by omega) va ands.length (iY ands) (by rfl) ((ownQ _).alloc _) ⟨w.heap.size+1,0,none⟩ 1 1 [.int .i64 p,.int .i64 q] (by rfl) (by rfl) (World.news_of_block (cs:=#[.int .i64 p,.int .i64 q]) (t:=50) (fr:=(0,0)) (hnew _ _)) (by simp[Value.oneCell']) (by omega) (by unfold maxLen;omega) (by omega) (by simp;omega) (w.heap.size+2) (by simp) ?_;intro gg cap w1 hown1 hgrow hat hlt1;have g1:=hgrow.cell (cQ2 _ _) aB;have g2:=(World.frozen?_of_block (a:=⟨Bb,2,none⟩) (hgrow.block Bb (by simp;omega) aB)).trans (fQ2 _ _)))
 all_goals
  have hc5:∀n o,(((w.alloc (.cells #[.int .i64 p,.int .i64 q] 133)).drewN n).alloc o).cell? ⟨w.heap.size,0,none⟩=some (.int .i64 p)/\(((w.alloc (.cells #[.int .i64 p,.int .i64 q] 133)).drewN n).alloc o).cell? ⟨w.heap.size,1,none⟩=some (.int .i64 q):=fun n o=>by
   have hh:(((w.alloc (.cells #[.int .i64 p,.int .i64 q] 133)).drewN n).alloc o).heap[w.heap.size]?=some (.cells #[.int .i64 p,.int .i64 q] 133 (0,0)):=
    (Below.heap_alloc ((w.alloc (.cells #[.int .i64 p,.int .i64 q] 133)).drewN n) o w.heap.size (by simp)).trans Array.getElem?_push_size
   exact⟨by simp[World.cell?,hh],by simp[World.cell?,hh]⟩
  have hbA:∀n o,Below w.heap.size w (((w.alloc (.cells #[.int .i64 p,.int .i64 q] 133)).drewN n).alloc o):=fun n o=>(((Below.refl _ w).alloc (Nat.le_refl _) (.cells #[.int .i64 p,.int .i64 q] 133)).trans (c:=(w.alloc (.cells #[.int .i64 p,.int .i64 q] 133)).drewN n) ⟨rfl,rfl,rfl,Nat.le_refl _,fun _ _=>rfl⟩).alloc (by simp) o
  obtain⟨r1,r2,r3,r4,r5,r6⟩:=J7 K.out (hbA _ _) (hc5 _ _).1 (hc5 _ _).2 hown1 hgrow (hat.imp id (fun e=>by omega))
  clear g1 g2 cQ2 fQ1 fQ2 hnew ownQ b0 b1 b2 b5 f2 aB aH hc5 hbA hgrow hown1 hown
  generalize w1.setCell ⟨Bb,2,none⟩ (.slice (some ⟨gg,0,none⟩) (ands.length+1) cap)=wS at r1 r2 r3 r4 r5 r6 ⊢
  have e0:wS.cell? ⟨Bb,0,none⟩=some (.int .i64 i):=by simp[World.cell?,r1]
  have e1:wS.cell? ⟨Bb,1,none⟩=some (.slice A1 l c1):=by simp[World.cell?,r1]
  have e2:wS.cell? ⟨Bb,2,none⟩=some (.slice (some ⟨gg,0,none⟩) (ands.length+1) cap):=by simp[World.cell?,r1]
  have e5:wS.cell? ⟨Bb,5,none⟩=some (.map (some Mb)):=by simp[World.cell?,r1]
  have R1:=Hd.mk r1;have R2:=Hd.mk r2;have R3:=Hd.mk r3;have R6:=Hd.mk r6;have R7:=Hd.mk hat
  clear r1 r2 r3 r6 hat
  go_wp2
  go_quiet (fail)
  go_wp2
  have e5':(wS.drewN nq).cell? ⟨Bb,5,none⟩=some (.map (some Mb)):=e5
  have p0':(wS.drewN nq).cell? ⟨w.heap.size,0,none⟩=some (.int .i64 p):=r4
  have p1':(wS.drewN nq).cell? ⟨w.heap.size,1,none⟩=some (.int .i64 q):=r5
  have R1':Hd ((wS.drewN nq).heap[Bb]?=_):=⟨R1.out⟩
  have R2':Hd ((wS.drewN nq).ownsRow base 50 2 (.slice (some ⟨gg,0,none⟩) (ands.length+1) cap) (ands.length+1) (iY (ands++[(p,q)]))):=⟨R2.out⟩
  have R3':Hd (lA Tryz.prog 133 3 AD Mb ands.length m (wS.drewN nq)):=⟨R3.out.kept (row:=none) ⟨rfl,rfl,rfl,Nat.le_refl _,fun _ _ _=>rfl⟩ (by simp)⟩
  have R6':Hd (Left (fun k=>k=Bb\/va.ownBlock=some k) w (wS.drewN nq)):=⟨R6.out.trans ⟨rfl,rfl,rfl,Nat.le_refl _,fun _ _ _=>rfl⟩⟩
  generalize wS.drewN nq=wT at e5' p0' p1' R1' R2' R3' R6' ⊢
  clear e0 e1 e2 e5 r4 r5 R1 R2 R3 R6
  go_still_tail 6,(by kernel_rfl)
  change wpList _ _ _ _ _ wT.drew
  obtain⟨D,d1,d2⟩:=R3'.out
  have D2:=Hd.mk d2
  clear d2
  refine wpList_mapUpdate_own _ rfl _ _ _ 113 rfl 133 3 xS Tryz.underlying113 _ Mb ands.length D rfl d1.drew (by unfold maxLen;omega) _ _ kl rfl rfl hkl _ [] (plainElem_int Tryz.underlying3 (oW (by omega) (by omega))) ?_
  intro w2 hm2 hg2
  have G1:=Hd.mk hm2;have G2:=Hd.mk hg2;have G3:=Hd.mk d1
  clear hm2 hg2 d1
  go_wp2
  go_ret
  have hneM:=K.out.ne
  have hgT:wT.grownBy w2 (some Mb):=⟨G2.out.os,G2.out.tape,G2.out.output,G2.out.size,G2.out.block⟩
  have hBlt:Bb<wT.heap.size:=lt_of_block R1'.out
  have aM:some Mb≠(Value.slice (some ⟨gg,0,none⟩) (ands.length+1) cap).ownBlock:=fun e=>by
   obtain⟨es,clock,hm9,_⟩:=G3.out
   rcases R2'.out.2 with⟨h9,_⟩|⟨g9,cap9,cur9,h9,_,hg9,_⟩
   .cases h9
   .have e1:g9=gg:=by cases h9;rfl
    have e2:Mb=gg:=by simpa[Value.ownBlock]using e
    subst e1;subst e2
    rw[hm9]at hg9
    simp at hg9
  have o9:=R2'.out.kept hgT (.inr (fun e=>aM e.symm))
  refine⟨rfl,⟨_,⟨(hgT.block Bb hBlt (fun e=>hneM (Option.some.inj e).symm)).trans R1'.out,by simpa using o9,?_,K.out.ne,K.out.lt⟩,?_⟩,?_⟩
  .have:=lA.put (x:=(p,q)) (c:=2*(i+l+(ands.length+1))) Hp hkl xS G3.out D2.out G1.out
   simpa using this
  .rcases R7.out with h9|h9
   .exact .inl h9.symm
   .exact .inr (fun k hk=>by
     have:gg=k:=by simpa[Value.ownBlock]using hk
     omega)
  .exact(R6'.out.mono (fun k h=>h.elim .inl (fun h=>.inr (.inr h)))).trans (Left.of_grown hgT (fun k hk=>.inr (.inl (Option.some.inj hk).symm)))
end
section
set_option maxRecDepth 1000000 in
set_option maxHeartbeats 4000000 in
theorem No{Bb Mb base:Nat}{i:Int}{A1:Option Addr}{l c1:Nat}{s3 s4 va:Value}{ands:List (Int×Int)}{m:Int×Int->Option Int}{w:World}(hB:Ga Bb Mb base i A1 l c1 s3 s4 va ands m w)(x y p q:Int)(hx:0<=x)(hy:0<=y)(hx2:x<=100000)(hy2:y<=100000)
  (hi:0<=i) (hi2:i<=1000) (hl:l<=1000) (hn:ands.length<=1000)
  (h:jz x y=none) (hpq:p=y/\q=x/\x<y) (hm:m (p,q)=none) (hq0:0<=q) (hq1:q<=100000) (hp0:0<=p) (hp1:p<=100000) :
  Calls Tryz.prog 72 #[.pointer (some ⟨Bb,0,none⟩),.int .i64 x,.int .i64 y] w fun e w'=>e = .returned (.int .i64 (2*(i+l+(ands.length+1))))/\(∃va',Ga Bb Mb base i A1 l c1 s3 s4 va' (ands++[(p,q)]) (fun z=>if z=(p,q) then some (2*(i+l+(ands.length+1))) else m z) w'/\(va'.ownBlock=va.ownBlock\/∀k,va'.ownBlock=some k->w.heap.size<=k))/\Left (fun k=>k=Bb\/k=Mb\/va.ownBlock=some k) w w':=by
 obtain⟨h0,h1,h2,h3,h4,h5⟩:=qj h
 clear h
 have hxor:=LZ hy (by omega)
 have d0:(x==0)=false:=beq_false_of_ne h0
 have d1:(y==0)=false:=beq_false_of_ne h1
 have d2:(x==1)=false:=beq_false_of_ne h3
 have d3:(x==y)=false:=beq_false_of_ne h4
 have d4:(y==1)=false:=beq_false_of_ne h5
 have d5:(x==cZ y)=false:=beq_false_of_ne h2
 have hlt:=lt_of_block hB.blk
 have b0:w.cell? ⟨Bb,0,none⟩=some (.int .i64 i):=by simp[World.cell?,hB.blk]
 have b1:w.cell? ⟨Bb,1,none⟩=some (.slice A1 l c1):=by simp[World.cell?,hB.blk]
 have b2:w.cell? ⟨Bb,2,none⟩=some va:=by simp[World.cell?,hB.blk]
 have b5:w.cell? ⟨Bb,5,none⟩=some (.map (some Mb)):=by simp[World.cell?,hB.blk]
 have f2:w.frozen? ⟨Bb,2,none⟩=false:=by simp[World.frozen?,hB.blk]
 obtain⟨kl,hkl⟩:=Ft (a:=p) (b:=q) (by rcases hpq with⟨rfl,rfl,_⟩;exact oW (by assumption) (by omega)) (by rcases hpq with⟨rfl,rfl,_⟩;exact oW (by assumption) (by omega))
 have hlk:∀n,(Instr.lookup 113 (.map (some Mb)) (.agg #[.int .i64 p,.int .i64 q]) true).run Tryz.prog ((w.alloc (.cells #[.int .i64 p,.int .i64 q] 133)).drewN n) = .ok (.tuple #[.int .i64 0,.bool false]) ((w.alloc (.cells #[.int .i64 p,.int .i64 q] 133)).drewN n):=by
  intro n
  have hk:lA Tryz.prog 133 3 AD Mb ands.length m ((w.alloc (.cells #[.int .i64 p,.int .i64 q] 133)).drewN n):=(hB.map.kept (World.grownBy_alloc w _ none) (by simp)).kept (row:=none) ⟨rfl,rfl,rfl,Nat.le_refl _,fun _ _ _=>rfl⟩ (by simp)
  have:=hk.look (x:=(p,q)) xS Tryz.underlying113 Tryz.underlying3 (LY _) hkl
  rw[hm]at this
  exact this
 have hown:=hB.own
 have hbl:=hB.lt
 obtain⟨i0,hi0,hz0,hz1,hz2⟩:=MO
 have aB:some Bb≠va.ownBlock:=fun e=>by
  rcases hB.own.2 with⟨rfl,_⟩|⟨g,cap,cur,rfl,_,hg,_⟩
  .cases e
  .have:Bb=g:=by simpa[Value.ownBlock]using e
   subst this
   rw[hB.blk]at hg
   simp at hg
 have aH:some w.heap.size≠va.ownBlock:=fun e=>by
  have:=(hB.own.lt _ e.symm).2
  omega
 have K:=Hd.mk hB
 clear hB h0 h1 h2 h3 h4 h5
 obtain⟨rfl,rfl,hlt'⟩:=hpq
 go_enter Tryz.func72,Tryz.ntmps72
 go_wp2
 go_quiet (fail)
 go_wp2
 clear hlk
 have ownQ:∀n,((w.alloc (.cells #[.int .i64 p,.int .i64 q] 133)).drewN n).ownsRow base 50 2 va ands.length (iY ands):=fun n=>(hown.alloc _)
 have hnew:∀n o,(((w.alloc (.cells #[.int .i64 p,.int .i64 q] 133)).drewN n).alloc o).heap[w.heap.size+1]?=some o:=fun n o=>by
  have:w.heap.size+1=((w.alloc (.cells #[.int .i64 p,.int .i64 q] 133)).drewN n).heap.size:=by simp
  rw[this];exact Array.getElem?_push_size
 have fQ1:∀n,(((w.alloc (.cells #[.int .i64 p,.int .i64 q] 133)).drewN n).drew).frozen? ⟨Bb,2,none⟩=false:=fun n=>(World.frozen?_of_block (a:=⟨Bb,2,none⟩) (show _=w.heap[Bb]? from Below.heap_alloc w _ Bb hlt)).trans f2
 have fQ2:∀n o,(((w.alloc (.cells #[.int .i64 p,.int .i64 q] 133)).drewN n).alloc o).frozen? ⟨Bb,2,none⟩=false:=fun n o=>(World.frozen?_of_block (a:=⟨Bb,2,none⟩) ((Below.heap_alloc ((w.alloc (.cells #[.int .i64 p,.int .i64 q] 133)).drewN n) o Bb (by simp;omega)).trans (Below.heap_alloc w _ Bb hlt))).trans f2
 have cQ2:∀n o,(((w.alloc (.cells #[.int .i64 p,.int .i64 q] 133)).drewN n).alloc o).cell? ⟨Bb,2,none⟩=some va:=fun n o=>(World.cell?_of_block (a:=⟨Bb,2,none⟩) ((Below.heap_alloc ((w.alloc (.cells #[.int .i64 p,.int .i64 q] 133)).drewN n) o Bb (by simp;omega)).trans (Below.heap_alloc w _ Bb hlt))).trans b2
 go_region_law
  ((refine step_append_lies _ (by rfl) _ _ _ (by rfl) base 50 i0 _ 2 16 Tryz.underlying23 hi0 hz0 hz1 hz2 rfl (by omega) va ands.length (iY ands) (by rfl) ((ownQ _).alloc _) ⟨w.heap.size+1,0,none⟩ 1 1 [.int .i64 p,.int .i64 q] (by rfl) (by rfl) (World.news_of_block (cs:=#[.int .i64 p,.int .i64 q]) (t:=50) (fr:=(0,0)) (hnew _ _)) (by simp[Value.oneCell']) (by omega) (by unfold maxLen;omega) (by omega) (by simp;omega) (w.heap.size+2) (by simp) ?_;intro gg cap w1 hown1 hgrow hat hlt1;have g1:=hgrow.cell (cQ2 _ _) aB;have g2:=(World.frozen?_of_block (a:=⟨Bb,2,none⟩) (hgrow.block Bb (by simp;omega) aB)).trans (fQ2 _ _)))
 all_goals
  have hc5:∀n o,(((w.alloc (.cells #[.int .i64 p,.int .i64 q] 133)).drewN n).alloc o).cell? ⟨w.heap.size,0,none⟩=some (.int .i64 p)/\(((w.alloc (.cells #[.int .i64 p,.int .i64 q] 133)).drewN n).alloc o).cell? ⟨w.heap.size,1,none⟩=some (.int .i64 q):=fun n o=>by
   have hh:(((w.alloc (.cells #[.int .i64 p,.int .i64 q] 133)).drewN n).alloc o).heap[w.heap.size]?=some (.cells #[.int .i64 p,.int .i64 q] 133 (0,0)):=
    (Below.heap_alloc ((w.alloc (.cells #[.int .i64 p,.int .i64 q] 133)).drewN n) o w.heap.size (by simp)).trans Array.getElem?_push_size
   exact⟨by simp[World.cell?,hh],by simp[World.cell?,hh]⟩
  have hbA:∀n o,Below w.heap.size w (((w.alloc (.cells #[.int .i64 p,.int .i64 q] 133)).drewN n).alloc o):=fun n o=>(((Below.refl _ w).alloc (Nat.le_refl _) (.cells #[.int .i64 p,.int .i64 q] 133)).trans (c:=(w.alloc (.cells #[.int .i64 p,.int .i64 q] 133)).drewN n) ⟨rfl,rfl,rfl,Nat.le_refl _,fun _ _=>rfl⟩).alloc (by simp) o
  obtain⟨r1,r2,r3,r4,r5,r6⟩:=J7 K.out (hbA _ _) (hc5 _ _).1 (hc5 _ _).2 hown1 hgrow (hat.imp id (fun e=>by omega))
  clear g1 g2 cQ2 fQ1 fQ2 hnew ownQ b0 b1 b2 b5 f2 aB aH hc5 hbA hgrow hown1 hown
  generalize w1.setCell ⟨Bb,2,none⟩ (.slice (some ⟨gg,0,none⟩) (ands.length+1) cap)=wS at r1 r2 r3 r4 r5 r6 ⊢
  have e0:wS.cell? ⟨Bb,0,none⟩=some (.int .i64 i):=by simp[World.cell?,r1]
  have e1:wS.cell? ⟨Bb,1,none⟩=some (.slice A1 l c1):=by simp[World.cell?,r1]
  have e2:wS.cell? ⟨Bb,2,none⟩=some (.slice (some ⟨gg,0,none⟩) (ands.length+1) cap):=by simp[World.cell?,r1]
  have e5:wS.cell? ⟨Bb,5,none⟩=some (.map (some Mb)):=by simp[World.cell?,r1]
  have R1:=Hd.mk r1;have R2:=Hd.mk r2;have R3:=Hd.mk r3;have R6:=Hd.mk r6;have R7:=Hd.mk hat
  clear r1 r2 r3 r6 hat
  go_wp2
  go_quiet (fail)
  go_wp2
  have e5':(wS.drewN nq).cell? ⟨Bb,5,none⟩=some (.map (some Mb)):=e5
  have p0':(wS.drewN nq).cell? ⟨w.heap.size,0,none⟩=some (.int .i64 p):=r4
  have p1':(wS.drewN nq).cell? ⟨w.heap.size,1,none⟩=some (.int .i64 q):=r5
  have R1':Hd ((wS.drewN nq).heap[Bb]?=_):=⟨R1.out⟩
  have R2':Hd ((wS.drewN nq).ownsRow base 50 2 (.slice (some ⟨gg,0,none⟩) (ands.length+1) cap) (ands.length+1) (iY (ands++[(p,q)]))):=⟨R2.out⟩
  have R3':Hd (lA Tryz.prog 133 3 AD Mb ands.length m (wS.drewN nq)):=⟨R3.out.kept (row:=none) ⟨rfl,rfl,rfl,Nat.le_refl _,fun _ _ _=>rfl⟩ (by simp)⟩
  have R6':Hd (Left (fun k=>k=Bb\/va.ownBlock=some k) w (wS.drewN nq)):=⟨R6.out.trans ⟨rfl,rfl,rfl,Nat.le_refl _,fun _ _ _=>rfl⟩⟩
  generalize wS.drewN nq=wT at e5' p0' p1' R1' R2' R3' R6' ⊢
  clear e0 e1 e2 e5 r4 r5 R1 R2 R3 R6
  go_still_tail 6,(by kernel_rfl)
  change wpList _ _ _ _ _ wT.drew
  obtain⟨D,d1,d2⟩:=R3'.out
  have D2:=Hd.mk d2
  clear d2
  refine wpList_mapUpdate_own _ rfl _ _ _ 113 rfl 133 3 xS Tryz.underlying113 _ Mb ands.length D rfl d1.drew (by unfold maxLen;omega) _ _ kl rfl rfl hkl _ [] (plainElem_int Tryz.underlying3 (oW (by omega) (by omega))) ?_
  intro w2 hm2 hg2
  have G1:=Hd.mk hm2;have G2:=Hd.mk hg2;have G3:=Hd.mk d1
  clear hm2 hg2 d1
  go_wp2
  go_ret
  have hneM:=K.out.ne
  have hgT:wT.grownBy w2 (some Mb):=⟨G2.out.os,G2.out.tape,G2.out.output,G2.out.size,G2.out.block⟩
  have hBlt:Bb<wT.heap.size:=lt_of_block R1'.out
  have aM:some Mb≠(Value.slice (some ⟨gg,0,none⟩) (ands.length+1) cap).ownBlock:=fun e=>by
   obtain⟨es,clock,hm9,_⟩:=G3.out
   rcases R2'.out.2 with⟨h9,_⟩|⟨g9,cap9,cur9,h9,_,hg9,_⟩
   .cases h9
   .have e1:g9=gg:=by cases h9;rfl
    have e2:Mb=gg:=by simpa[Value.ownBlock]using e
    subst e1;subst e2
    rw[hm9]at hg9
    simp at hg9
  have o9:=R2'.out.kept hgT (.inr (fun e=>aM e.symm))
  refine⟨rfl,⟨_,⟨(hgT.block Bb hBlt (fun e=>hneM (Option.some.inj e).symm)).trans R1'.out,by simpa using o9,?_,K.out.ne,K.out.lt⟩,?_⟩,?_⟩
  .have:=lA.put (x:=(p,q)) (c:=2*(i+l+(ands.length+1))) Hp hkl xS G3.out D2.out G1.out
   simpa using this
  .rcases R7.out with h9|h9
   .exact .inl h9.symm
   .exact .inr (fun k hk=>by
     have:gg=k:=by simpa[Value.ownBlock]using hk
     omega)
  .exact(R6'.out.mono (fun k h=>h.elim .inl (fun h=>.inr (.inr h)))).trans (Left.of_grown hgT (fun k hk=>.inr (.inl (Option.some.inj hk).symm)))
end
section
def gG(t l:Int):Int:=if l%2=0 then t else cZ t
theorem Oz{l:Int}(h0:0<=l)(h1:l<=1000000):bits BinOp.and IntKind.i64 l 1=l%2:=by
 obtain⟨n,rfl⟩:=Int.eq_ofNat_of_zero_le h0
 show IntKind.wrap .i64 (((BitVec.ofInt 64 (n:Int))&&&(BitVec.ofInt 64 1)).toNat:Int)=_
 have hx:((BitVec.ofInt 64 (n:Int))&&&(BitVec.ofInt 64 1)).toNat=n%2:=by
  rw[BitVec.toNat_and]
  have h1:(BitVec.ofInt 64 (n:Int)).toNat=n:=by
   rw[BitVec.toNat_ofInt]
   omega
  have h3:(BitVec.ofInt 64 1).toNat=1:=by decide
  rw[h1,h3,Nat.and_one_is_mod]
 rw[hx,IntKind.wrap_i64]
 omega
theorem Ri{t:Int}(h0:0<=t)(h1:t<=1000000):bits BinOp.xor IntKind.i64 t 0=t:=by
 obtain⟨n,rfl⟩:=Int.eq_ofNat_of_zero_le h0
 show IntKind.wrap .i64 (((BitVec.ofInt 64 (n:Int))^^^(BitVec.ofInt 64 0)).toNat:Int)=_
 have hx:((BitVec.ofInt 64 (n:Int))^^^(BitVec.ofInt 64 0)).toNat=n:=by
  rw[BitVec.toNat_xor]
  have h1:(BitVec.ofInt 64 (n:Int)).toNat=n:=by
   rw[BitVec.toNat_ofInt]
   omega
  have h3:(BitVec.ofInt 64 0).toNat=0:=by decide
  rw[h1,h3,Nat.xor_zero]
 rw[hx,IntKind.wrap_i64]
 omega
theorem DP{t l:Int}(h0:0<=t)(h1:t<=1000000)(l0:0<=l):bits BinOp.xor IntKind.i64 t (l%2)=gG t l:=by
 unfold gG
 have h2:l%2=0\/l%2=1:=by omega
 rcases h2 with h|h
 .rw[h,if_pos rfl];exact Ri h0 h1
 .rw[h,if_neg (by decide)];exact LZ h0 h1
set_option maxRecDepth 1000000 in
set_option maxHeartbeats 4000000 in
theorem MC(Tc T N:Nat)(l t:Int)(w:World)(l0:0<=l)(l1:l<=100000)(t0:0<=t)(t1:t<=100000)(hl:l/2<(N:Int))(hc:w.cell? ⟨Tc,0,none⟩=some (.slice (some ⟨T,0,none⟩) N N))(ht:w.cell? ⟨T,(l/2).toNat,none⟩=some (.int .i64 t)):
  Calls Tryz.prog 71 #[.int .i64 l,.pointer (some ⟨Tc,0,none⟩)] w fun e w'=>e = .returned (.int .i64 (gG t l))/\w'=w:=by
 have ha:=Oz l0 (by omega)
 have hx:=DP (t:=t) (l:=l) t0 (by omega) l0
 have h9:(0:Int)<=l/2:=by omega
 obtain⟨k,hk⟩:∃k:Nat,l/2=(k:Int):=⟨(l/2).toNat,by omega⟩
 have hq:Int.tdiv l 2=(k:Int):=by rw[<-hk,Int.tdiv_eq_ediv_of_nonneg l0]
 rw[hk]at ht hl h9
 simp only[Int.toNat_natCast]at ht
 go_enter Tryz.func71,Tryz.ntmps71
 go_wp2
 trace_state
 go_ret
 exact⟨rfl,rfl⟩
end
section
def Flat(w:World)(b o m:Nat)(l:List Int):Prop:=
 ∃cells t,w.heap[b]?=some (.cells cells t (0,0))/\o+m<=cells.size/\∀j x,l[j]?=some x->cells[o+j]?=some (.int .i64 x)
section
variable {w w':World} {b o m:Nat} {l:List Int}
theorem Flat.lt(h:Flat w b o m l):b<w.heap.size:=by
 obtain⟨cs,t,h,_⟩:=h
 exact lt_of_block h
theorem Flat.cell(h:Flat w b o m l){j:Nat}{x:Int}(hx:l[j]?=some x):w.cell? ⟨b,o+j,none⟩=some (.int .i64 x):=by
 obtain⟨cs,t,h1,h2,h3⟩:=h
 simp[World.cell?,h1,h3 j x hx]
theorem Flat.frozen(h:Flat w b o m l)(k:Nat):w.frozen? ⟨b,k,none⟩=false:=by
 obtain⟨cs,t,h1,h2,h3⟩:=h
 simp[World.frozen?,h1]
theorem Flat.kept(h:Flat w b o m l)(hb:w'.heap[b]?=w.heap[b]?):Flat w' b o m l:=by
 obtain⟨cs,t,h1,h2,h3⟩:=h
 exact⟨cs,t,hb.trans h1,h2,h3⟩
theorem Flat.set(h:Flat w b o m l){j:Nat}{x y:Int}(hx:l[j]?=some x):Flat (w.setCell ⟨b,o+j,none⟩ (.int .i64 y)) b o m (l.set j y):=by
 obtain⟨cs,t,h1,h2,h3⟩:=h
 have hj:o+j<cs.size:=by
  have:=h3 j x hx
  rcases Nat.lt_or_ge (o+j) cs.size with h|h
  .exact h
  .rw[Array.getElem?_eq_none h]at this;cases this
 refine⟨_,t,cw h1 hj,by simpa using h2,fun k z hz=>?_⟩
 rw[List.getElem?_set]at hz
 split at hz
 .rename_i hjk
  subst hjk
  split at hz
  .cases hz
   simp[Array.setIfInBounds,hj]
  .cases hz
 .rename_i hjk
  have:=h3 k z hz
  rw[<-this]
  simp[Array.setIfInBounds,hj,Array.getElem?_set]
  omega
end
def Cl(base top:Nat)(w:World)(σ:Nat)(n:Nat)(l:List Int)(v:Value):Prop:=
 (n=0/\l=[]/\∃A,v = .slice A 0 0)\/∃b o c,v = .slice (some ⟨b,o,none⟩) n c/\n<=c/\c<=9223372036854775807/\(base<=b/\b<top)/\Flat w b o (c*σ) l
def nW(W:World)(σ n:Nat)(l:List Int)(e:Ending)(w':World):Prop:=
 ∃v,e = .returned v/\Below W.heap.size W w'/\Cl W.heap.size w'.heap.size w' σ n l v
set_option maxRecDepth 1000000 in
set_option maxHeartbeats 4000000 in
theorem Lt(w:World):Calls Tryz.prog 37 #[.slice none 0 0] w fun e w'=>e = .returned (.slice none 0 0)/\w'=w:=by
 have hq:∀W,(binOp BinOp.eql 23 (.slice none 0 0) (.slice none 0 0)).run Tryz.prog W = .ok (.bool true) W:=by
  intro W
  kernel_rfl
 go_enter Tryz.func37,Tryz.ntmps37
 go_wp2
 go_ret
 exact⟨rfl,rfl⟩
end
section
structure NO(w:World)(i:Int)(l c1 n3 c3 n4 c4:Nat)(A1 A3 A4:Option Addr)(s1 s2 s3 s4:Value)(W:World):Prop where
 box:W.heap[w.heap.size]?=some (.cells #[.int .i64 i,.slice A1 l c1,.slice none 0 0,.slice A3 n3 c3,.slice A4 n4 c4] 26 (0,0))
 blk:W.heap[w.heap.size+2]?=some (.cells #[.int .i64 i,s1,s2,s3,s4,.map (some (w.heap.size+1))] 115 (0,0))
 map:lA Tryz.prog 133 3 AD (w.heap.size+1) 0 (fun _=>none) W
 bel:Below w.heap.size w W
 size:w.heap.size+3<=W.heap.size
theorem NO.more{w:World}{i:Int}{l c1 n3 c3 n4 c4:Nat}{A1 A3 A4:Option Addr}{s1 s2 s3 s4:Value}{W W':World}(h:NO w i l c1 n3 c3 n4 c4 A1 A3 A4 s1 s2 s3 s4 W)(hb:Below W.heap.size W W'):NO w i l c1 n3 c3 n4 c4 A1 A3 A4 s1 s2 s3 s4 W':=by
 have hz:=h.size
 exact⟨(hb.block _ (by omega)).trans h.box,(hb.block _ (by omega)).trans h.blk,h.map.kept (row:=none) ⟨hb.os,hb.tape,hb.output,hb.size,fun k hk _=>hb.block k hk⟩ (by simp),h.bel.trans (hb.mono (by omega)),Nat.le_trans hz hb.size⟩
theorem NO.store{w:World}{i:Int}{l c1 n3 c3 n4 c4:Nat}{A1 A3 A4:Option Addr}{s1 s2 s3 s4:Value}{W:World}(h:NO w i l c1 n3 c3 n4 c4 A1 A3 A4 s1 s2 s3 s4 W){o:Nat}{u:Value}(s1' s2' s3' s4':Value)
  (he:(#[.int .i64 i,s1,s2,s3,s4,.map (some (w.heap.size+1))]:Array Value).setIfInBounds o u = #[.int .i64 i,s1',s2',s3',s4',.map (some (w.heap.size+1))]) (ho:o<6):NO w i l c1 n3 c3 n4 c4 A1 A3 A4 s1' s2' s3' s4' (W.setCell ⟨w.heap.size+2,o,none⟩ u):=by
 refine⟨(Below.heap_setCell _ _ _ _ (by show w.heap.size≠w.heap.size+2;omega)).trans h.box,?_,?_,h.bel.setCell (by show w.heap.size<=w.heap.size+2;omega) _,by simpa using h.size⟩
 .rw[cw h.blk (by simpa using ho),he]
 .obtain⟨D,d1,d2⟩:=h.map
  exact⟨D,d1.setCell (by show w.heap.size+1≠w.heap.size+2;omega) _,d2⟩
def PM(w:World)(i:Int)(l c1 n3 c3 n4 c4:Nat)(A1 A3 A4:Option Addr)(ls p3 p4:List Int)(e:Ending)(w':World):Prop:=
 e = .returned (.pointer (some ⟨w.heap.size+2,0,none⟩))/\∃s1 s3 s4 m1 m2,NO w i l c1 n3 c3 n4 c4 A1 A3 A4 s1 (.slice none 0 0) s3 s4 w'/\Cl (w.heap.size+3) m1 w' 2 l ls s1/\Cl m1 m2 w' 1 n3 p3 s3/\Cl m2 w'.heap.size w' 1 n4 p4 s4/\w.heap.size+3<=m1/\m1<=m2/\m2<=w'.heap.size
theorem Cl.more{base base' top top':Nat}{w w':World}{σ n:Nat}{l:List Int}{v:Value}(h:Cl base top w σ n l v)(hb:Below w.heap.size w w')(hbb:base'<=base)(htt:top<=top'):Cl base' top' w' σ n l v:=by
 rcases h with h|⟨b,o,c,h1,h2,h3,h4,h5⟩
 .exact .inl h
 .exact .inr ⟨b,o,c,h1,h2,h3,⟨Nat.le_trans hbb h4.1,Nat.lt_of_lt_of_le h4.2 htt⟩,h5.kept (hb.block _ h5.lt)⟩
theorem Cl.store{base top b' o':Nat}{w:World}{σ n:Nat}{l:List Int}{v u:Value}(h:Cl base top w σ n l v)(hb:b'<base):Cl base top (w.setCell ⟨b',o',none⟩ u) σ n l v:=by
 rcases h with h|⟨b,o,c,h1,h2,h3,h4,h5⟩
 .exact .inl h
 .exact .inr ⟨b,o,c,h1,h2,h3,h4,h5.kept (Below.heap_setCell _ _ _ _ (by show b≠b';omega))⟩
theorem Cl.isSlice{base top:Nat}{w:World}{σ n:Nat}{l:List Int}{v:Value}(h:Cl base top w σ n l v):∃A k c,v = .slice A k c:=by
 rcases h with⟨_,_,A,h⟩|⟨b,o,c,h1,_⟩
 .exact⟨_,_,_,h⟩
 .exact⟨_,_,_,h1⟩
theorem xb{W:World}{b b' o o':Nat}{v:Value}{x:Option Value}(h:W.cell? ⟨b,o,none⟩=x)(hne:b≠b'):(W.setCell ⟨b',o',none⟩ v).cell? ⟨b,o,none⟩=x:=
 (World.cell?_of_block (a:=⟨b,o,none⟩) (Below.heap_setCell _ _ _ _ hne)).trans h
set_option maxRecDepth 1000000 in
set_option maxHeartbeats 4000000 in
theorem Nc(i:Int)(l c1 n3 c3 n4 c4:Nat)(A1 A3 A4:Option Addr)(ls p3 p4:List Int)(w:World)(l1:l<=1000)
  (hC1:∀W,Below w.heap.size w W->Calls Tryz.prog 36 #[.slice A1 l c1] W (nW W 2 l ls))
  (hC3:∀W,Below w.heap.size w W->Calls Tryz.prog 38 #[.slice A3 n3 c3] W (nW W 1 n3 p3))
  (hC4:∀W,Below w.heap.size w W->Calls Tryz.prog 38 #[.slice A4 n4 c4] W (nW W 1 n4 p4)) :
  Calls Tryz.prog 70 #[.agg #[.int .i64 i,.slice A1 l c1,.slice none 0 0,.slice A3 n3 c3,.slice A4 n4 c4]] w (PM w i l c1 n3 c3 n4 c4 A1 A3 A4 ls p3 p4):=by
 have H1:=Hd.mk hC1;have H3:=Hd.mk hC3;have H4:=Hd.mk hC4
 clear hC1 hC3 hC4
 have hmm:=@run_makeMap Tryz.prog
 go_enter Tryz.func70,Tryz.ntmps70
 go_wp2
 have hB:NO w i l c1 n3 c3 n4 c4 A1 A3 A4 (.slice A1 l c1) (.slice none 0 0) (.slice A3 n3 c3) (.slice A4 n4 c4) (((w.alloc (.cells #[.int .i64 i,.slice A1 l c1,.slice none 0 0,.slice A3 n3 c3,.slice A4 n4 c4] 26)).alloc (.map #[] 0)).alloc (.cells #[.int .i64 i,.slice A1 l c1,.slice none 0 0,.slice A3 n3 c3,.slice A4 n4 c4,.map (some (w.heap.size+1))] 115)):=by
  refine⟨?_,?_,?_,(((Below.refl _ w).alloc (Nat.le_refl _) _).alloc (by simp) _).alloc (by simp;omega) _,by simp⟩
  .rw[Below.heap_alloc _ _ _ (by simp;omega),Below.heap_alloc _ _ _ (by simp)]
   exact Array.getElem?_push_size
  .have:w.heap.size+2=(((w.alloc (.cells #[.int .i64 i,.slice A1 l c1,.slice none 0 0,.slice A3 n3 c3,.slice A4 n4 c4] 26)).alloc (.map #[] 0))).heap.size:=by simp
   rw[this]
   exact Array.getElem?_push_size
  .have:=lA.made (P:=Tryz.prog) (k:=133) (e:=3) (enc:=AD) (w:=w.alloc (.cells #[.int .i64 i,.slice A1 l c1,.slice none 0 0,.slice A3 n3 c3,.slice A4 n4 c4] 26))
   have e9:(w.alloc (.cells #[.int .i64 i,.slice A1 l c1,.slice none 0 0,.slice A3 n3 c3,.slice A4 n4 c4] 26)).heap.size=w.heap.size+1:=by simp
   rw[e9]at this
   exact this.kept (World.grownBy_alloc _ _ none) (by simp)
 generalize (((w.alloc (.cells #[.int .i64 i,.slice A1 l c1,.slice none 0 0,.slice A3 n3 c3,.slice A4 n4 c4] 26)).alloc (.map #[] 0)).alloc (.cells #[.int .i64 i,.slice A1 l c1,.slice none 0 0,.slice A3 n3 c3,.slice A4 n4 c4,.map (some (w.heap.size+1))] 115))=W0 at hB ⊢
 have e1:W0.cell? ⟨w.heap.size,1,none⟩=some (.slice A1 l c1):=by simp[World.cell?,hB.box]
 have e2:W0.cell? ⟨w.heap.size,2,none⟩=some (.slice none 0 0):=by simp[World.cell?,hB.box]
 have f1:W0.frozen? ⟨w.heap.size+2,1,none⟩=false:=by simp[World.frozen?,hB.blk]
 have f2:W0.frozen? ⟨w.heap.size+2,2,none⟩=false:=by simp[World.frozen?,hB.blk]
 have g1:W0.cell? ⟨w.heap.size+2,1,none⟩=some (.slice A1 l c1):=by simp[World.cell?,hB.blk]
 have g2:W0.cell? ⟨w.heap.size+2,2,none⟩=some (.slice none 0 0):=by simp[World.cell?,hB.blk]
 have K0:=Hd.mk hB
 have KD:=Hd.mk (NO.more (W':=W0.drew) hB ⟨rfl,rfl,rfl,Nat.le_refl _,fun _ _=>rfl⟩)
 clear hB
 go_region_held3 (fun w'=>w'.cell? ⟨w.heap.size,1,none⟩=some (.slice A1 l c1)/\w'.cell? ⟨w.heap.size,2,none⟩=some (.slice none 0 0)) (first|exact⟨k1,k2⟩|exact⟨xb k1 (by omega),xb k2 (by omega)⟩|exact⟨xb (xb k1 (by omega)) (by omega),xb (xb k2 (by omega)) (by omega)⟩|go_keep)
  (first|(go_at_call 36;refine(H1.out _ ?_).mono ?_;(· exact KD.out.bel);rintro e w5 ⟨s1,rfl,hb5,hc5⟩;obtain⟨sA,sn,sc,rfl⟩:=hc5.isSlice;have K1:=Hd.mk (KD.out.more hb5);have C1:=Hd.mk hc5;have k1:w5.cell? ⟨w.heap.size,1,none⟩=some (.slice A1 l c1):=by { simp[World.cell?,K1.out.box] };have k2:w5.cell? ⟨w.heap.size,2,none⟩=some (.slice none 0 0):=by { simp[World.cell?,K1.out.box] };have f3:w5.frozen? ⟨w.heap.size+2,1,none⟩=false:=by { simp[World.frozen?,K1.out.blk] };have f4:w5.frozen? ⟨w.heap.size+2,2,none⟩=false:=by { simp[World.frozen?,K1.out.blk] };have g3:w5.cell? ⟨w.heap.size+2,1,none⟩=some (.slice A1 l c1):=by { simp[World.cell?,K1.out.blk] };have g4:w5.cell? ⟨w.heap.size+2,2,none⟩=some (.slice none 0 0):=by { simp[World.cell?,K1.out.blk] };clear hb5 hc5)|(go_at_call 37;refine(Lt _).mono ?_;rintro e w6 ⟨rfl,rfl⟩))
 have K2:=Hd.mk ((K1.out.store (o:=1) (u:=.slice sA sn sc) (.slice sA sn sc) (.slice none 0 0) (.slice A3 n3 c3) (.slice A4 n4 c4) rfl (by omega)).store (o:=2) (u:=.slice none 0 0) (.slice sA sn sc) (.slice none 0 0) (.slice A3 n3 c3) (.slice A4 n4 c4) rfl (by omega))
 have hzD:w.heap.size+3<=W0.drew.heap.size:=KD.out.size
 have C2:=Hd.mk ((Cl.more (base':=w.heap.size+3) (top':=((w6.setCell ⟨w.heap.size+1+1,1,none⟩ (.slice sA sn sc)).setCell ⟨w.heap.size+1+1,2,none⟩ (.slice none 0 0)).heap.size) C1.out (Below.refl _ _) hzD (by simp)).store (b':=w.heap.size+2) (o':=1) (u:=.slice sA sn sc) (by omega) |>.store (b':=w.heap.size+2) (o':=2) (u:=.slice none 0 0) (by omega))
 clear k1 k2 f3 f4 g3 g4 K1 C1 e1 e2 f1 f2 g1 g2 K0 KD hzD
 generalize (w6.setCell ⟨w.heap.size+1+1,1,none⟩ (.slice sA sn sc)).setCell ⟨w.heap.size+1+1,2,none⟩ (.slice none 0 0)=W1 at K2 C2 ⊢
 have e1:W1.cell? ⟨w.heap.size,3,none⟩=some (.slice A3 n3 c3):=by simp[World.cell?,K2.out.box]
 have e2:W1.cell? ⟨w.heap.size,4,none⟩=some (.slice A4 n4 c4):=by simp[World.cell?,K2.out.box]
 have KD:=Hd.mk (NO.more (W':=W1.drew) K2.out ⟨rfl,rfl,rfl,Nat.le_refl _,fun _ _=>rfl⟩)
 have CD:Hd (Cl (w.heap.size+3) W1.heap.size W1.drew 2 l ls (.slice sA sn sc)):=⟨C2.out.more ⟨rfl,rfl,rfl,Nat.le_refl _,fun _ _=>rfl⟩ (Nat.le_refl _) (Nat.le_refl _)⟩
 go_wp2
 go_region_held3 (fun w'=>w'.cell? ⟨w.heap.size,3,none⟩=some (.slice A3 n3 c3)/\w'.cell? ⟨w.heap.size,4,none⟩=some (.slice A4 n4 c4)) (first|exact⟨k1,k2⟩|exact⟨k3,k4⟩|exact⟨xb k3 (by omega),xb k4 (by omega)⟩|exact⟨xb (xb k3 (by omega)) (by omega),xb (xb k4 (by omega)) (by omega)⟩|go_keep)
  (first|(go_at_call 38;refine(H3.out _ ?_).mono ?_;(· exact KD.out.bel);rintro e w7 ⟨t3,rfl,hb5,hc5⟩;obtain⟨tA,tn,tc,rfl⟩:=hc5.isSlice;have K3:=Hd.mk (KD.out.more hb5);have CD1:=Hd.mk (CD.out.more hb5 (Nat.le_refl _) (Nat.le_refl _));have S1:=Hd.mk hb5.size;have C3:=Hd.mk hc5;have S0:=Hd.mk KD.out.size;clear KD;have k1:w7.cell? ⟨w.heap.size,3,none⟩=some (.slice A3 n3 c3):=by { simp[World.cell?,K3.out.box] };have k2:w7.cell? ⟨w.heap.size,4,none⟩=some (.slice A4 n4 c4):=by { simp[World.cell?,K3.out.box] };clear hb5 hc5)|(go_at_call 38;refine(H4.out _ ?_).mono ?_;(· exact K3.out.bel);rintro e w8 ⟨t4,rfl,hb5,hc5⟩;obtain⟨uA,un,uc,rfl⟩:=hc5.isSlice;have K4:=Hd.mk (K3.out.more hb5);have CD2:=Hd.mk (CD1.out.more hb5 (Nat.le_refl _) (Nat.le_refl _));have CD3:=Hd.mk (C3.out.more hb5 (Nat.le_refl _) (Nat.le_refl _));have C4:=Hd.mk hc5;have S2:=Hd.mk hb5.size;have S3:=Hd.mk K3.out.size;have k3:w8.cell? ⟨w.heap.size,3,none⟩=some (.slice A3 n3 c3):=by { simp[World.cell?,K4.out.box] };have k4:w8.cell? ⟨w.heap.size,4,none⟩=some (.slice A4 n4 c4):=by { simp[World.cell?,K4.out.box] };have f3:w8.frozen? ⟨w.heap.size+2,3,none⟩=false:=by { simp[World.frozen?,K4.out.blk] };have f4:w8.frozen? ⟨w.heap.size+2,4,none⟩=false:=by { simp[World.frozen?,K4.out.blk] };have g3:w8.cell? ⟨w.heap.size+2,3,none⟩=some (.slice A3 n3 c3):=by { simp[World.cell?,K4.out.blk] };have g4:w8.cell? ⟨w.heap.size+2,4,none⟩=some (.slice A4 n4 c4):=by { simp[World.cell?,K4.out.blk] };clear hb5 hc5))
 have K5:=Hd.mk ((K4.out.store (o:=3) (u:=.slice tA tn tc) (.slice sA sn sc) (.slice none 0 0) (.slice tA tn tc) (.slice A4 n4 c4) rfl (by omega)).store (o:=4) (u:=.slice uA un uc) (.slice sA sn sc) (.slice none 0 0) (.slice tA tn tc) (.slice uA un uc) rfl (by omega))
 have s0:=S0.out;have s1':=S1.out;have s2:=S2.out;have s3':=S3.out
 have s4:W1.drew.heap.size=W1.heap.size:=rfl
 have C5:=Hd.mk (CD2.out.store (b':=w.heap.size+2) (o':=3) (u:=.slice tA tn tc) (by omega) |>.store (b':=w.heap.size+2) (o':=4) (u:=.slice uA un uc) (by omega))
 have C6:=Hd.mk (CD3.out.store (b':=w.heap.size+2) (o':=3) (u:=.slice tA tn tc) (by omega) |>.store (b':=w.heap.size+2) (o':=4) (u:=.slice uA un uc) (by omega))
 have C7:=Hd.mk (C4.out.store (b':=w.heap.size+2) (o':=3) (u:=.slice tA tn tc) (by omega) |>.store (b':=w.heap.size+2) (o':=4) (u:=.slice uA un uc) (by omega))
 have Z1:Hd (w8.heap.size<=((w8.setCell ⟨w.heap.size+1+1,3,none⟩ (.slice tA tn tc)).setCell ⟨w.heap.size+1+1,4,none⟩ (.slice uA un uc)).heap.size/\w7.heap.size<=((w8.setCell ⟨w.heap.size+1+1,3,none⟩ (.slice tA tn tc)).setCell ⟨w.heap.size+1+1,4,none⟩ (.slice uA un uc)).heap.size):=⟨by simp,by simp;omega⟩
 clear k1 k2 k3 k4 f3 f4 g3 g4 K3 K4 C4 CD2 CD3 CD1 C3 CD
 generalize (w8.setCell ⟨w.heap.size+1+1,3,none⟩ (.slice tA tn tc)).setCell ⟨w.heap.size+1+1,4,none⟩ (.slice uA un uc)=W2 at K5 C5 C6 C7 Z1 ⊢
 have e3:W2.cell? ⟨w.heap.size,2,none⟩=some (.slice none 0 0):=by simp[World.cell?,K5.out.box]
 go_wp2
 refine wp_loop_rounds 1 ?_
 rw[rounds_succ]
 go_wp2
 go_ret
 exact⟨rfl,_,_,_,_,_,K5.out,C5.out,C6.out,(C7.out.more (Below.refl _ _) (Nat.le_refl _) Z1.out.1),by omega,by omega,Z1.out.2⟩
end
section
def cY(g:Int):List (Int×Int)->(Int×Int)->Option Int
 |[],_=>none
 |a::r,z=>if z=a then some g else cY (g+2) r z
theorem AW:∀(l:List (Int×Int)) (g:Int) (p:Int×Int),cY g l p=none->cY g (l++[p])=fun z=>if z=p then some (g+2*(l.length:Int)) else cY g l z
 |[],g,p,_=>by
  funext z
  simp[cY]
 |a::r,g,p,h=>by
  funext z
  simp only[cY]at h
  split at h
  .cases h
  .rename_i hne
   have:=congrFun (AW r (g+2) p h) z
   simp only[List.cons_append,cY,this,List.length_cons]
   by_cases h1:z=a
   .have h2:¬z=p:=fun e=>hne (e▸h1)
    simp only[if_pos h1,if_neg h2]
   .by_cases h2:z=p
    .simp only[if_neg h1,if_pos h2];congr 1;push_cast;omega
    .simp only[if_neg h1,if_neg h2]
theorem ku:∀(l:List (Int×Int)) (g:Int) (z:Int×Int) (c:Int),cY g l z=some c->∃k:Nat,k<l.length/\c=g+2*(k:Int)/\l[k]?=some z
 |[],g,z,c,h=>by cases h
 |a::r,g,z,c,h=>by
  simp only[cY]at h
  split at h
  .rename_i h1
   cases h
   exact⟨0,by simp,by simp,by simp[h1]⟩
  .obtain⟨k,k1,k2,k3⟩:=ku r (g+2) z c h
   exact⟨k+1,by simpa using k1,by rw[k2];push_cast;omega,by simpa using k3⟩
def jA(g:Int)(ands:List (Int×Int))(x y:Int):Int×List (Int×Int):=
 match jz x y with
 |some v=>(v,ands)
 |none=>match cY g ands (max x y,min x y) with
  |some c=>(c,ands)
  |none=>(g+2*(ands.length:Int),ands++[(max x y,min x y)])
def Jx(Bb Mb base:Nat)(i:Int)(A1:Option Addr)(l c1:Nat)(s3 s4 va:Value)(g:Int)(ands:List (Int×Int))(x y:Int)(w:World)(e:Ending)(w':World):Prop:=
 e = .returned (.int .i64 (jA g ands x y).1)/\∃va',Ga Bb Mb base i A1 l c1 s3 s4 va' (jA g ands x y).2 (cY g (jA g ands x y).2) w'/\(va'.ownBlock=va.ownBlock\/∀k,va'.ownBlock=some k->w.heap.size<=k)/\Left (fun k=>k=Bb\/k=Mb\/va.ownBlock=some k) w w'
theorem Ga.more{Bb Mb base:Nat}{i:Int}{A1:Option Addr}{l c1:Nat}{s3 s4 va:Value}{ands:List (Int×Int)}{m:Int×Int->Option Int}{w w':World}(h:Ga Bb Mb base i A1 l c1 s3 s4 va ands m w)(hb:Below w.heap.size w w'):Ga Bb Mb base i A1 l c1 s3 s4 va ands m w':=by
 have hg:w.grownBy w' none:=⟨hb.os,hb.tape,hb.output,hb.size,fun k hk _=>hb.block k hk⟩
 refine⟨(hb.block _ (lt_of_block h.blk)).trans h.blk,h.own.kept hg ?_,h.map.kept hg (by simp),h.ne,h.lt⟩
 cases va.ownBlock<;>simp
theorem Oy{Bb Mb base:Nat}{i:Int}{A1:Option Addr}{l c1:Nat}{s3 s4 va:Value}{ands:List (Int×Int)}{w:World}(g:Int)(hg:g=2*(i+l+1))(hB:Ga Bb Mb base i A1 l c1 s3 s4 va ands (cY g ands) w)(x y:Int)(hx:0<=x)(hy:0<=y)(hx2:x<=100000)(hy2:y<=100000)
  (hi:0<=i) (hi2:i<=1000) (hl:l<=1000) (hn:ands.length<=1000):Calls Tryz.prog 72 #[.pointer (some ⟨Bb,0,none⟩),.int .i64 x,.int .i64 y] w (Jx Bb Mb base i A1 l c1 s3 s4 va g ands x y w):=by
 unfold Jx jA
 cases hs:jz x y with
 |some v=>
  refine(Jp Bb x y v w hx hy hx2 hy2 hs).mono ?_
  rintro e w' ⟨rfl,rfl⟩
  exact⟨rfl,va,hB,.inl rfl,Left.refl _ _⟩
 |none=>
  obtain⟨h0,h1,h2,h3,h4,h5⟩:=qj hs
  have hpq:(max x y=x/\min x y=y/\y<x)\/(max x y=y/\min x y=x/\x<y):=by omega
  cases hk:cY g ands (max x y,min x y) with
  |some c=>
   refine(LG hB x y c (max x y) (min x y) hx hy hx2 hy2 hs hpq hk).mono ?_
   rintro e w' ⟨rfl,hb⟩
   exact⟨rfl,va,hB.more hb,.inl rfl,Left.of_below hb⟩
  |none=>
   have hc:2*(i+l+(ands.length+1))=g+2*(ands.length:Int):=by omega
   have hkn:=AW ands g _ hk
   rcases hpq with hpq|hpq
   .refine(Ox hB x y (max x y) (min x y) hx hy hx2 hy2 hi hi2 hl hn hs hpq hk (by omega) (by omega) (by omega) (by omega)).mono ?_
    rintro e w' ⟨rfl,⟨va',b1,b2⟩,b3⟩
    rw[hc]at b1 ⊢
    exact⟨rfl,va',by rw[hkn];exact b1,b2,b3⟩
   .refine(No hB x y (max x y) (min x y) hx hy hx2 hy2 hi hi2 hl hn hs hpq hk (by omega) (by omega) (by omega) (by omega)).mono ?_
    rintro e w' ⟨rfl,⟨va',b1,b2⟩,b3⟩
    rw[hc]at b1 ⊢
    exact⟨rfl,va',by rw[hkn];exact b1,b2,b3⟩
def kB(t:List Int)(x:Int):Int:=gG (t.getD (x/2).toNat 0) x
def pQ(g:Int)(gate:Nat)(cands:List (Int×Int))(given:List Int)(s:List Int×List (Int×Int)):List Int×List (Int×Int):=
 if 0<=given.getD s.1.length 0 then(s.1++[kB s.1 (given.getD s.1.length 0)],s.2)
 else if s.1.length<gate then(s.1++[2*(s.1.length:Int)],s.2)
 else
  let p:=cands.getD (s.1.length-gate) (0,0)
  let r:=jA g s.2 (kB s.1 p.1) (kB s.1 p.2)
  (s.1++[r.1],r.2)
def dC(g:Int)(gate:Nat)(cands:List (Int×Int))(given:List Int):Nat->List Int×List (Int×Int)
 |0=>([],[])
 |n+1=>pQ g gate cands given (dC g gate cands given n)
theorem dZ(g:Int)(gate:Nat)(cands:List (Int×Int))(given:List Int):∀n,(dC g gate cands given n).1.length=n
 |0=>rfl
 |n+1=>by
  have ih:=dZ g gate cands given n
  simp only[dC,pQ]
  split
  .simp[ih]
  .split<;>simp[ih]
end
section
structure Kc(N gate:Nat)(cands:List (Int×Int))(given:List Int):Prop where
 len:N=gate+cands.length
 giv:∀v,v<N->given.getD v 0<2*(v:Int) /\ -1<=given.getD v 0
 gates:∀(k:Nat) (p:Int×Int),cands[k]?=some p->0<=p.2/\p.2<=p.1/\p.1/2<(gate:Int)+(k:Int)
 pos:1<=gate
 small:N<=3001
 glen:given.length=N
 cl:cands.length<=1000
theorem Ix{t:Int}{k:Nat}(h0:0<=t)(h1:t<=2*(k:Int)+1):0<=cZ t/\cZ t<=2*(k:Int)+1:=by
 unfold cZ;split<;>omega
theorem GU{t x:Int}{k:Nat}(h0:0<=t)(h1:t<=2*(k:Int)+1):0<=gG t x/\gG t x<=2*(k:Int)+1:=by
 unfold gG;split
 .exact⟨h0,h1⟩
 .exact Ix h0 h1
structure TB(gate n:Nat)(s:List Int×List (Int×Int)):Prop where
 len:s.1.length=n
 lit:∀k,k<n->0<=s.1.getD k 0/\s.1.getD k 0<=2*(k:Int)+1
 ands:s.2.length<=n-gate
theorem TB.at{gate n:Nat}{s:List Int×List (Int×Int)}(h:TB gate n s){x:Int}(h0:0<=x)(h1:x/2<(n:Int)):0<=kB s.1 x/\kB s.1 x<=2*((x/2).toNat:Int)+1:=by
 obtain⟨q1,q2⟩:=h.lit (x/2).toNat (by omega)
 exact GU q1 q2
theorem lN(l:List Int)(x:Int)(k:Nat):(l++[x]).getD k 0=if k<l.length then l.getD k 0 else if k=l.length then x else 0:=by
 simp only[List.getD_eq_getElem?_getD]
 split
 .rw[List.getElem?_append_left (by assumption)]
 .split
  .rename_i h1 h2;subst h2;simp
  .rw[List.getElem?_eq_none (by simp;omega)];rfl
theorem Jq {gate n : Nat} {ands : List (Int × Int)} (x y : Int) (hn : gate ≤ n) (ha : ands.length ≤ n - gate) (hx : 0 ≤ x ∧ x ≤ 2 * (n : Int) + 1) (hy : 0 ≤ y ∧ y ≤ 2 * (n : Int) + 1) :
    (0 ≤ (jA (2 * (gate : Int)) ands x y).1 ∧ (jA (2 * (gate : Int)) ands x y).1 ≤ 2 * (n : Int) + 1) ∧ (jA (2 * (gate : Int)) ands x y).2.length ≤ n + 1 - gate := by
  unfold jA
  cases hs : jz x y with
  | some v =>
    refine ⟨?_, by simp only []; omega⟩
    unfold jz at hs
    split at hs
    · cases hs; simp only []; omega
    · split at hs
      · cases hs; exact hy
      · split at hs
        · cases hs; exact hx
        · cases hs
  | none =>
    simp only []
    cases hk : cY (2 * (gate : Int)) ands (max x y, min x y) with
    | some c =>
      obtain ⟨k, k1, k2, _⟩ := ku _ _ _ _ hk
      simp only []
      omega
    | none =>
      simp only [List.length_append, List.length_cons, List.length_nil]
      omega
theorem p5 {N gate : Nat} {cands : List (Int × Int)} {given : List Int} (h : Kc N gate cands given) : ∀ n, n ≤ N → TB gate n (dC (2 * (gate : Int)) gate cands given n)
  | 0, _ => ⟨rfl, fun k hk => absurd hk (Nat.not_lt_zero _), by simp [dC]⟩
  | n + 1, hn => by
    have ih := p5 h n (by omega)
    simp only [dC]
    generalize dC (2 * (gate : Int)) gate cands given n = s at ih ⊢
    obtain ⟨g1, g2⟩ := h.giv n (by omega)
    have hl := ih.len
    have step : ∀ (x : Int) (a : List (Int × Int)), 0 ≤ x → x ≤ 2 * (n : Int) + 1 → a.length ≤ n + 1 - gate → TB gate (n + 1) (s.1 ++ [x], a) := fun x a h0 h1 h2 =>
      ⟨by simp [hl], fun k hk => by
        rw [lN]
        split
        · exact ih.lit k (by omega)
        · rw [if_pos (by omega)]
          have : k = n := by omega
          subst this
          exact ⟨h0, h1⟩, h2⟩
    have ha := ih.ands
    unfold pQ
    rw [hl]
    split
    · rename_i h0
      obtain ⟨q1, q2⟩ := ih.at (x := given.getD n 0) h0 (by omega)
      exact step _ _ q1 (by omega) (by omega)
    · split
      · exact step _ _ (by omega) (by omega) (by omega)
      · rename_i hg
        have hka : n - gate < cands.length := by have := h.len; omega
        obtain ⟨p0, p1, p2⟩ := h.gates (n - gate) _ (List.getElem?_eq_getElem hka)
        have hp : cands.getD (n - gate) (0, 0) = cands[n - gate] := by simp [List.getD, List.getElem?_eq_getElem hka]
        rw [hp]
        obtain ⟨q1, q2⟩ := ih.at (x := (cands[n - gate]).1) (by omega) (by omega)
        obtain ⟨q3, q4⟩ := ih.at (x := (cands[n - gate]).2) (by omega) (by omega)
        obtain ⟨⟨r1, r2⟩, r3⟩ := Jq (gate := gate) (n := n) (ands := s.2) (kB s.1 (cands[n - gate]).1) (kB s.1 (cands[n - gate]).2) (by omega) ha ⟨q1, by omega⟩ ⟨q3, by omega⟩
        exact step _ _ r1 r2 r3
end
section
def Np(i:Int)(l na:Nat)(A1 A2:Option Addr)(c1 c2:Nat)(x y:Value)(w:World):Prop:=
 ∀W,Below w.heap.size w W->Calls Tryz.prog 48 #[.agg #[.int .i64 i,.slice A1 l c1,.slice A2 na c2,x,y]] W fun e w'=>e = .returned (.tuple #[.int .i64 (i+l+na),.int .i64 0])/\Below W.heap.size W w'
theorem JW:∃i:TypeInfo,Tryz.prog.info? 3=some i/\i.zero=some (.int .i64 0)/\i.size=1/\i.bytes=8:=by
 have h1:(Tryz.prog.info? 3).map (fun i=>(i.size,i.bytes))=some (1,8):=by kernel_rfl
 have h2:(Tryz.prog.info? 3).bind (fun i=>i.zero)=some (.int .i64 0):=by kernel_rfl
 cases h:Tryz.prog.info? 3 with
 |none=>rw[h]at h1;cases h1
 |some i=>
  rw[h]at h1 h2
  simp only[Option.map_some,Option.some.injEq,Prod.mk.injEq,Option.bind_some]at h1 h2
  exact⟨i,rfl,h2,h1.1,h1.2⟩
theorem Ea(n:Nat)(hn:n<=3001)(W:World):(Instr.makeSlice 24 (.int .i64 (n:Int)) (.int .i64 (n:Int))).run Tryz.prog W = .ok (.slice (some ⟨W.heap.size,0,none⟩) n n) (W.alloc (.cells (Array.replicate n (.int .i64 0)) 3)):=by
 obtain⟨i0,hi,hz0,hz1,hz2⟩:=JW
 have:=run_make (P:=Tryz.prog) W 24 3 i0 _ Tryz.underlying24 hi hz0 .i64 .i64 (n:Int) (n:Int) (by omega) (by omega) (by rw[hz2];omega) (by omega)
 rw[this,hz1]
 have:madeCells (Value.int .i64 0).cells (((n:Int)).toNat*1)=Array.replicate n (.int .i64 0):=by
  apply Array.ext'
  simp only[madeCells,Value.cells,Nat.mul_one,Int.toNat_natCast,Array.toList_map,Array.toList_replicate,Array.toList_range]
  rw[show(fun x=>(#[Value.int .i64 0]:Array Value)[x%(#[Value.int .i64 0]:Array Value).size]!)=fun _=>Value.int .i64 0 from funext fun x=>by simp[Nat.mod_one]]
  simp[List.map_const']
 rw[this]
 simp
theorem Cl.slice{base top:Nat}{w:World}{σ n:Nat}{l:List Int}{v:Value}(h:Cl base top w σ n l v):∃A c,v = .slice A n c:=by
 rcases h with⟨rfl,_,A,h⟩|⟨b,o,c,h1,_⟩
 .exact⟨_,_,h⟩
 .exact⟨_,_,h1⟩
structure Fx where
 H:Nat
 Bb:Nat
 Mb:Nat
 T:Nat
 Tc:Nat
 L0:Nat
 i:Int
 l:Nat
 A1:Option Addr
 c1:Nat
 A2:Option Addr
 c2:Nat
 x3:Value
 x4:Value
 t1A:Option Addr
 t1c:Nat
 s3:Value
 s4:Value
 gate:Nat
 N:Nat
 cands:List (Int×Int)
 given:List Int
 Gb:Nat
 Go:Nat
 base:Nat
structure Fx.Ok(F:Fx)(W0:World):Prop where
 size:W0.heap.size=F.L0
 box:W0.heap[F.H]?=some (.cells #[.int .i64 F.i,.slice F.A1 F.l F.c1,.slice F.A2 F.cands.length F.c2,F.x3,F.x4] 26 (0,0))
 tc:W0.heap[F.Tc]?=some (.cells #[.slice (some ⟨F.T,0,none⟩) F.N F.N] 24 (0,0))
 nT:F.T≠F.Bb/\F.T≠F.Mb/\F.H≠F.T/\F.H≠F.Bb/\F.H≠F.Mb/\F.Tc≠F.T/\F.Tc≠F.Bb/\F.Tc≠F.Mb
 low:F.Gb<F.H/\F.H<F.Bb/\F.H<F.Mb/\F.H<F.T
 giv:∀k,k<F.N->W0.cell? ⟨F.Gb,F.Go+k,none⟩=some (.int .i64 (F.given.getD k 0))
 data:∀k g,F.cands[k]?=some g->∃b o,F.A2=some ⟨b,o,none⟩/\b<F.H/\W0.cell? ⟨b,o+k*2,none⟩=some (.int .i64 g.1)/\W0.cell? ⟨b,o+k*2+1,none⟩=some (.int .i64 g.2)
 ok:Kc F.N F.gate F.cands F.given
 gt:(F.gate:Int)=F.i+F.l+1
 i0:0<=F.i
 i1:F.i<=1000
 l1:F.l<=1000
structure LI(F:Fx)(W0:World)(n:Nat)(wr:World):Prop where
 bld:∃va,Ga F.Bb F.Mb F.base F.i F.t1A F.l F.t1c F.s3 F.s4 va (dC (2*(F.gate:Int)) F.gate F.cands F.given n).2 (cY (2*(F.gate:Int)) (dC (2*(F.gate:Int)) F.gate F.cands F.given n).2) wr/\∀k,va.ownBlock=some k->F.L0<=k
 row:Flat wr F.T 0 F.N ((dC (2*(F.gate:Int)) F.gate F.cands F.given n).1++List.replicate (F.N-n) 0)
 left:Left (fun k=>k=F.Bb\/k=F.Mb\/k=F.T) W0 wr
theorem LI.more{F:Fx}{W0 wr w':World}{n:Nat}(h:LI F W0 n wr)(hb:Below wr.heap.size wr w'):LI F W0 n w':=by
 obtain⟨va,b1,b2⟩:=h.bld
 exact⟨⟨va,b1.more hb,b2⟩,h.row.kept (hb.block _ h.row.lt),h.left.trans (Left.of_below hb)⟩
theorem BH{g:Int}{gate:Nat}{cands:List (Int×Int)}{given:List Int}{n N:Nat}(hn:n<N):((dC g gate cands given n).1++List.replicate (N-n) (0:Int))[n]?=some 0:=by
 rw[List.getElem?_append_right (by rw[dZ];exact Nat.le_refl _),dZ,Nat.sub_self]
 rw[List.getElem?_replicate_of_lt (by omega)]
theorem Mj{g:Int}{gate:Nat}{cands:List (Int×Int)}{given:List Int}{n N:Nat}(hn:n<N)(x:Int):((dC g gate cands given n).1++List.replicate (N-n) (0:Int)).set n x=(dC g gate cands given n).1++[x]++List.replicate (N-(n+1)) 0:=by
 have hl:=dZ g gate cands given n
 rw[List.set_append_right _ _ (by omega),hl,Nat.sub_self,show N-n=(N-(n+1))+1 by omega,List.replicate_succ,List.set_cons_zero,List.append_assoc]
 rfl
theorem LI.told{F:Fx}{W0 wr:World}{n:Nat}(hn:n<F.N)(h:LI F W0 n wr){x:Int}{a:List (Int×Int)}(hr:pQ (2*(F.gate:Int)) F.gate F.cands F.given (dC (2*(F.gate:Int)) F.gate F.cands F.given n)=((dC (2*(F.gate:Int)) F.gate F.cands F.given n).1++[x],a))
  (hF:F.Ok W0) {wb:World} (hrow:Flat wb F.T 0 F.N ((dC (2*(F.gate:Int)) F.gate F.cands F.given n).1++List.replicate (F.N-n) 0)) (hleft:Left (fun k=>k=F.Bb\/k=F.Mb\/k=F.T) W0 wb)
  (hb:∃va,Ga F.Bb F.Mb F.base F.i F.t1A F.l F.t1c F.s3 F.s4 va a (cY (2*(F.gate:Int)) a) wb/\∀k,va.ownBlock=some k->F.L0<=k) (hT:F.T<F.L0):LI F W0 (n+1) (wb.setCell ⟨F.T,n,none⟩ (.int .i64 x)):=by
 have hrun:dC (2*(F.gate:Int)) F.gate F.cands F.given (n+1)=((dC (2*(F.gate:Int)) F.gate F.cands F.given n).1++[x],a):=hr
 refine⟨?_,?_,?_⟩
 .obtain⟨va,b1,b2⟩:=hb
  refine⟨va,?_,b2⟩
  rw[hrun]
  refine⟨(Below.heap_setCell _ _ _ _ (Ne.symm hF.nT.1)).trans b1.blk,?_,?_,b1.ne,b1.lt⟩
  .exact ownsRow_setCell_other b1.own (fun e=>by have:=b2 F.T e;omega) _
  .obtain⟨D,d1,d2⟩:=b1.map
   exact⟨D,d1.setCell (Ne.symm hF.nT.2.1) _,d2⟩
 .rw[hrun]
  have:=hrow.set (j:=n) (y:=x) (BH hn)
  rw[Mj hn]at this
  simpa using this
 .exact hleft.trans ⟨rfl,rfl,rfl,by simp,fun k hk hn=>Below.heap_setCell _ _ _ _ (fun e=>hn (.inr (.inr e)))⟩
theorem LI.gate{F:Fx}{W0 wr wb:World}{n:Nat}(hF:F.Ok W0)(hT:F.T<F.L0)(h:LI F W0 n wr){va:Value}(hva:∀k,va.ownBlock=some k->F.L0<=k){g x y:Int}{ands:List (Int×Int)}{e:Ending}
  (hA:Jx F.Bb F.Mb F.base F.i F.t1A F.l F.t1c F.s3 F.s4 va g ands x y wr e wb) :
  Flat wb F.T 0 F.N ((dC (2*(F.gate:Int)) F.gate F.cands F.given n).1++List.replicate (F.N-n) 0)/\Left (fun k=>k=F.Bb\/k=F.Mb\/k=F.T) W0 wb/\(∃va,Ga F.Bb F.Mb F.base F.i F.t1A F.l F.t1c F.s3 F.s4 va (jA g ands x y).2 (cY g (jA g ands x y).2) wb/\∀k,va.ownBlock=some k->F.L0<=k):=by
 obtain⟨-,va',b1,b2,b3⟩:=hA
 obtain⟨n1,n2,-⟩:=hF.nT
 have hTb:wb.heap[F.T]?=wr.heap[F.T]?:=b3.block _ h.row.lt (by
  rintro(e|e|e)
  .exact n1 e
  .exact n2 e
  .have:=hva _ e;omega)
 have hsz:=h.left.size
 rw[hF.size]at hsz
 refine⟨h.row.kept hTb,⟨b3.os.trans h.left.os,b3.tape.trans h.left.tape,b3.output.trans h.left.output,Nat.le_trans h.left.size b3.size,fun k hk hn=>?_⟩,va',b1,fun k hk=>?_⟩
 .rw[b3.block k (Nat.lt_of_lt_of_le hk h.left.size),h.left.block k hk hn]
  rintro(e|e|e)
  .exact hn (.inl e)
  .exact hn (.inr (.inl e))
  .have:=hva _ e;rw[hF.size]at hk;omega
 .rcases b2 with q|q
  .rw[q]at hk;exact hva k hk
  .exact Nat.le_trans hsz (q k hk)
theorem wW{B:Nat->Prop}{W0 wr wb:World}(h1:Left B W0 wr)(h2:Left B W0 wb){b o:Nat}{x:Option Value}(hb:b<W0.heap.size)(hn:¬B b)(h:wr.cell? ⟨b,o,none⟩=x):wb.cell? ⟨b,o,none⟩=x:=
 (World.cell?_of_block (a:=⟨b,o,none⟩) ((h2.block b hb hn).trans (h1.block b hb hn).symm)).trans h
structure LF(F:Fx)(n:Nat)(wr:World):Prop where
 tc:wr.cell? ⟨F.Tc,0,none⟩=some (.slice (some ⟨F.T,0,none⟩) F.N F.N)
 giv:wr.cell? ⟨F.Gb,F.Go+n,none⟩=some (.int .i64 (F.given.getD n 0))
 box:wr.heap[F.H]?=some (.cells #[.int .i64 F.i,.slice F.A1 F.l F.c1,.slice F.A2 F.cands.length F.c2,F.x3,F.x4] 26 (0,0))
 tn:wr.cell? ⟨F.T,n,none⟩=some (.int .i64 0)
 fz:wr.frozen? ⟨F.T,n,none⟩=false
 at':∀x:Int,0<=x->x/2<(n:Int)->wr.cell? ⟨F.T,(x/2).toNat,none⟩=some (.int .i64 ((dC (2*(F.gate:Int)) F.gate F.cands F.given n).1.getD (x/2).toNat 0))
 data:∀g,F.cands[n-F.gate]?=some g->∃b o,F.A2=some ⟨b,o,none⟩/\wr.cell? ⟨b,o+(n-F.gate)*2,none⟩=some (.int .i64 g.1)/\wr.cell? ⟨b,o+(n-F.gate)*2+1,none⟩=some (.int .i64 g.2)
theorem LI.lf{F:Fx}{W0 wr:World}{n:Nat}(hF:F.Ok W0)(hT:F.T<F.L0/\F.Tc<F.L0/\F.H<F.L0)(hn:n<F.N)(h:LI F W0 n wr):LF F n wr:=by
 have hk:∀k,k<F.L0->k≠F.Bb->k≠F.Mb->k≠F.T->wr.heap[k]?=W0.heap[k]?:=fun k h1 h2 h3 h4=>h.left.block k (by rw[hF.size];exact h1) (by rintro(e|e|e)<;>contradiction)
 obtain⟨n1,n2,n3,n4,n5,n6,n7,n8⟩:=hF.nT
 obtain⟨m1,m2,m3,m4⟩:=hF.low
 have hlen:=dZ (2*(F.gate:Int)) F.gate F.cands F.given n
 have hc:∀b o,b<F.H->wr.cell? ⟨b,o,none⟩=W0.cell? ⟨b,o,none⟩:=fun b o hb=>World.cell?_of_block (a:=⟨b,o,none⟩) (hk b (by omega) (by omega) (by omega) (by omega))
 refine⟨?_,?_,?_,?_,h.row.frozen n,?_,?_⟩
 .exact cell_of_one ((hk F.Tc hT.2.1 n7 n8 n6).trans hF.tc)
 .rw[hc _ _ m1];exact hF.giv n hn
 .rw[hk F.H hT.2.2 n4 n5 n3];exact hF.box
 .have:=h.row.cell (j:=n) (BH hn)
  simpa using this
 .intro x x0 x1
  have hj:(x/2).toNat<n:=by omega
  have:=h.row.cell (j:=(x/2).toNat) (x:=(dC (2*(F.gate:Int)) F.gate F.cands F.given n).1.getD (x/2).toNat 0) (by
   rw[List.getElem?_append_left (by omega),List.getElem?_eq_getElem (by omega)]
   simp[List.getD,List.getElem?_eq_getElem (show(x/2).toNat<(dC (2*(F.gate:Int)) F.gate F.cands F.given n).1.length by omega)])
  simpa using this
 .intro g hg
  obtain⟨b,o,q1,q2,q3,q4⟩:=hF.data _ g hg
  exact⟨b,o,q1,by rw[hc _ _ q2];exact q3,by rw[hc _ _ q2];exact q4⟩
end
end Go.Proofs.YtfjpfjnepdhnaaaGreat

