/- . -/
import Derived.Test.YtjkoadoekaplpaaGreatW2
import Derived.Test.YtjkoadoekaplpaaGreatR4
import Derived.Laws.CopyOwn
import Derived.Deep.RegionLaw
namespace Go.Proofs.YtjkoadoekaplpaaGreat
open Go Go.RowKit
set_option linter.unusedVariables false
set_option linter.unusedSimpArgs false
section
theorem elem3:Option.map (fun x:TypeInfo=>x.size) (Tryz.prog.info? 3)=some 1:=by kernel_rfl
theorem bWb(N n m:Nat)(h:n+m<=N)(v z:Value):splice (List.replicate n v++List.replicate (N-n) z) n (List.replicate m v)=List.replicate (n+m) v++List.replicate (N-(n+m)) z:=by
 unfold splice
 apply List.ext_getElem?
 intro j
 simp only[List.getElem?_append,List.length_append,List.length_take,List.length_replicate,List.getElem?_take,List.getElem?_drop,List.getElem?_replicate,List.length_drop]
 (repeat' split)<;>first|rfl|omega
theorem cNi{a b:Nat}(h:a<=b):a=Nat.min a b:=(Nat.min_eq_left h).symm
theorem bZd{w:World}{ops:Array Oper}{rest:List Oper}{o:Oper}{a:Act}{Q:Exit->Act->World->Prop}(hgd:o.guard=none)(d s:Operand)(ho:o.op = .call ⟨.builtin .copy,#[d,s],#[24,24]⟩)(g N X xo xc:Nat)
  (ha:a.eval d = .slice (some ⟨g,0,none⟩) N N) (hs:a.eval s = .slice (some ⟨X,xo,none⟩) 1 xc) (hh:w.heap[g]?=some (.cells (List.replicate N (Value.int .i64 0)).toArray 3 (0,0))) (hc:w.cell? ⟨X,xo,none⟩=some (.int .i64 (-1))) (hN:1<=N) (B:Nat) (w0:World) (hb:Below B w0 w) (hB:B<=g)
  (K:∀w',Hid (w'.heap[g]?=some (.cells (List.replicate 1 (Value.int .i64 (-1))++List.replicate (N-1) (Value.int .i64 0)).toArray 3 (0,0)))->Below B w0 w'->wpList Tryz.prog ops Q rest (a.put o.dst (.int .i64 1)) w'):wpList Tryz.prog ops Q (o::rest) a w:=by
 refine wpList_copy_splice hgd d s 24 24 ho 3 Tryz.underlying24 elem3 _ _ N N 1 xc ha hs g 0 _ 3 hh [.int .i64 (-1)] (cNi hN) (fun _=>⟨rfl,_,rfl,fun j v hv=>?_⟩) (by simp;omega) (by intro v hv;simp at hv;subst hv;rfl) B w0 hb hB (fun w' h1 h2=>K w' ?_ h2)
 .cases j with
  |zero=>simp at hv;subst hv;exact hc
  |succ j=>simp at hv
 .have:=bWb N 0 1 (by omega) (.int .i64 (-1)) (.int .i64 0)
  simp only[List.replicate_zero,List.nil_append,Nat.sub_zero,Nat.zero_add]at this
  rw[<-this]
  exact h1
theorem cGa{w:World}{ops:Array Oper}{o:Oper}{a:Act}{K:Act->World->Prop}{Q:Exit->Act->World->Prop}{E:Prop}(hgd:o.guard=none)(d s:Operand)(ho:o.op = .call ⟨.builtin .copy,#[d,s],#[24,24]⟩)(g N n m:Nat)
  (ha:a.eval d = .slice (some ⟨g,n,none⟩) (N-n) (N-n)) (hs:a.eval s = .slice (some ⟨g,0,none⟩) n N) (hh:w.heap[g]?=some (.cells (List.replicate n (Value.int .i64 (-1))++List.replicate (N-n) (Value.int .i64 0)).toArray 3 (0,0))) (hm:m=Nat.min n (N-n)) (hn:n<=N) (B:Nat) (w0:World) (hb:Below B w0 w) (hB:B<=g)
  (hK:∀w',Hid (w'.heap[g]?=some (.cells (List.replicate (n+m) (Value.int .i64 (-1))++List.replicate (N-(n+m)) (Value.int .i64 0)).toArray 3 (0,0)))->Below B w0 w'->K (a.put o.dst (.int .i64 (m:Int))) w'):if Region.wanted o (yielded ops a.tmps)=true then Oper.wp Tryz.prog o a w K Q else E:=by
 have hm1:m<=n:=hm▸Nat.min_le_left _ _
 have hm2:m<=N-n:=hm▸Nat.min_le_right _ _
 refine step_copy_splice hgd d s 24 24 ho 3 Tryz.underlying24 elem3 _ _ (N-n) (N-n) n N ha hs g n _ 3 hh (List.replicate m (.int .i64 (-1))) (by simpa using hm) (fun _=>⟨rfl,_,rfl,fun j v hv=>?_⟩) (by simp;omega) (by intro v hv;rw[List.mem_replicate]at hv;rw[hv.2];rfl) B w0 hb hB (fun w' h1 h2=>?_)
 .have hj:j<m:=by simpa using(List.getElem?_eq_some_iff.1 hv).1
  rw[List.getElem?_replicate_of_lt hj]at hv
  cases hv
  have:(⟨g,0,none⟩:Addr).add j=⟨g,j,none⟩:=by simp[Addr.add];exact fun h=>h.symm
  rw[this]
  simp only[World.cell?,hh]
  rw[List.getElem?_toArray,List.getElem?_append_left (by simp;omega),List.getElem?_replicate_of_lt (by omega)]
  rfl
 .have hs2:=bWb N n m (by omega) (.int .i64 (-1)) (.int .i64 0)
  rw[hs2]at h1
  have:=hK w' h1 h2
  simp only[List.length_replicate]
  exact this
def RepEnd(N:Nat)(w:World)(e:Ending)(w':World):Prop:=
 ∃T,e = .returned (.slice (some ⟨T,0,none⟩) N N)/\w.heap.size<=T/\Below w.heap.size w w'/\w'.heap[T]?=some (.cells (List.replicate N (Value.int .i64 (-1))).toArray 3 (0,0))
set_option maxRecDepth 1000000 in
set_option maxHeartbeats 4000000 in
theorem cB6(X xo xc N:Nat)(w:World)(hN:N<=3001)(hN1:1<=N)(hX:w.cell? ⟨X,xo,none⟩=some (.int .i64 (-1)))
  (hM:∀W,Below w.heap.size w W->Calls Tryz.prog 55 #[.int .u64 1,.int .u64 (N:Int)] W fun e w'=>e = .returned (.tuple #[.int .u64 0,.int .u64 (N:Int)])/\Below W.heap.size W w') :
  Calls Tryz.prog 33 #[.slice (some ⟨X,xo,none⟩) 1 xc,.int .i64 (N:Int)] w (RepEnd N w):=by
 have hmk:=cAf N hN
 have R0:=hM w (Below.refl _ _)
 have HX:=Hd.mk hX
 have hXl:=World.block_lt_of_cell? _ _ hX
 clear hM
 go_enter Tryz.func33,Tryz.ntmps33
 go_wp2_with (first|(go_at_call 55;refine R0.mono ?_;rintro e w1 ⟨rfl,hb⟩;have K1:=Hd.mk hb;have hc1:=(hb.cell (p:=⟨X,xo,none⟩) hXl).trans HX.out;have hsz:=hb.size;clear hb;have hh:(w1.alloc (.cells (Array.replicate N (.int .i64 0)) 3)).heap[w1.heap.size]?=some (.cells (List.replicate N (Value.int .i64 0)).toArray 3 (0,0)):=by { rw[show(w1.alloc (.cells (Array.replicate N (.int .i64 0)) 3)).heap[w1.heap.size]?=some (.cells (Array.replicate N (.int .i64 0)) 3 (0,0)) from Array.getElem?_push_size];simp };have hcx:(w1.alloc (.cells (Array.replicate N (.int .i64 0)) 3)).cell? ⟨X,xo,none⟩=some (.int .i64 (-1)):=(World.cell?_alloc_past _ _ _ (by show X<_;omega)).trans hc1;have HH:=Hd.mk hh;have HCX:=Hd.mk hcx;clear hh hcx hc1;have HB2:=Hd.mk (K1.out.alloc hsz (.cells (Array.replicate N (.int .i64 0)) 3)))|(with_reducible refine bZd rfl _ _ rfl w1.heap.size N X xo xc rfl rfl HH.out HCX.out hN1 w.heap.size w HB2.out hsz ?_;intro w2 hw2 hb2;have K2:=Hd.mk hw2.out;have K3:=Hd.mk hb2;clear hw2 hb2))
 generalize w1.heap.size=T at hsz K2 ⊢
 clear HH HCX HB2 K1
 go_loopw [8] (fun c wr=>∃n:Nat,1<=n/\n<=N/\c = .int .i64 n/\wr.heap[T]?=some (.cells (List.replicate n (Value.int .i64 (-1))++List.replicate (N-n) (Value.int .i64 0)).toArray 3 (0,0))/\Below w.heap.size w wr) (fun c _=>N-(intOf c).toNat)
 case atStart=>exact⟨1,Nat.le_refl _,hN1,rfl,K2.out,K3.out⟩
 case round=>
  obtain⟨n,hn1,hn2,rfl,hh,hbl⟩:=hrel
  by_cases hnN:n<N
  .have hnz:((N:Int)-(n:Int)).toNat=N-n:=by omega
   have hsub:(N:Int)-(n:Int)=((N-n:Nat):Int):=by omega
   obtain⟨m,hm⟩:∃m,m=Nat.min n (N-n):=⟨_,rfl⟩
   have hm0:1<=m/\n+m<=N:=by
    have:=Nat.min_le_right n (N-n)
    have h2:1<=Nat.min n (N-n):=Nat.le_min.2 ⟨hn1,by omega⟩
    have h3:Nat.min n (N-n)<=N-n:=Nat.min_le_right _ _
    omega
   obtain⟨hm1,hm2⟩:=hm0
   have hww:IntKind.i64.wrap ((n:Int)+(m:Int))=(n:Int)+(m:Int):=by rw[IntKind.wrap_i64];omega
   have hNe:¬N=n:=by omega
   have HM:=Hd.mk hm;have HHH:Hd (wr.drew.heap[T]?=some (.cells (List.replicate n (Value.int .i64 (-1))++List.replicate (N-n) (Value.int .i64 0)).toArray 3 (0,0))):=⟨hh⟩
   have HBL:=Hd.mk (hbl.trans (c:=wr.drew) ⟨rfl,rfl,rfl,Nat.le_refl _,fun _ _=>rfl⟩)
   clear hh hbl hm
   go_wp2
   go_region_held3 (fun w'=>True) (exact trivial) ((refine cGa (by rfl) _ _ (by rfl) T N n m (by rfl) (by rfl) HHH.out HM.out hn2 w.heap.size w HBL.out hsz ?_;intro w3 hw3 hb3;have K4:=Hd.mk hw3.out;have K5:=Hd.mk hb3;clear hw3 hb3))
   go_wp2
   all_goals go_roundw
   case rel=>exact⟨n+m,by omega,hm2,by go_num,K4.out,K5.out⟩
   case measure=>simp[intOf];omega
  .have hnE:N=n:=by omega
   subst hnE
   have HHH:=Hd.mk hh;have HBL:=Hd.mk hbl
   clear hh hbl
   go_wp2
   go_ret
   refine⟨T,rfl,hsz,HBL.out,?_⟩
   have:=HHH.out
   simpa using this
end
section
theorem keyU{x:Int}(h:(Lit.int .u64 x).wf=true):keyOf Tryz.prog 54 (encU x)=some (.int .u64 x):=Maps.keyOf_int_mk Tryz.underlying54 h
def notU(x:Int):Int:=bits BinOp.xor IntKind.u64 IntKind.u64.max x
def bGx(all x:Int):Int:=if bits BinOp.and IntKind.u64 x 1=1 then bits BinOp.and IntKind.u64 (notU x) all else x
def bPr:List (Int×Int)->Int->Option Int
 |[],_=>none
 |(a,b)::r,z=>if z=a then some b else bPr r z
def litG(s:List Int)(u x:Int):Int:=2*u+bits BinOp.and IntKind.u64 (bits BinOp.xor IntKind.u64 (s.getD u.toNat 0) x) 1
def bQm(nv:Int->Int->Option (Bool×Int))(v l:Int):Option (Bool×Int):=
 match nv (2*v) (negI l) with
 |none=>none
 |some (b,e)=>if e=0/\b=true then nv (2*v+1) l else some (b,e)
def stepG(all:Int)(gate:Nat)(nv:Int->Int->Option (Bool×Int))(s:List Int)(st:List Int×List (Int×Int)):Option (Sum Int (List Int×List (Int×Int))):=
 match bPr st.2 (bGx all (s.getD st.1.length 0)) with
 |none=>some (.inr (st.1++[-1],(bGx all (s.getD st.1.length 0),(st.1.length:Int))::st.2))
 |some u=>if st.1.length<gate then some (.inr (st.1++[-1],st.2)) else
  match(if gate<=7 then some (true,0) else bQm nv (st.1.length:Int) (litG s u (s.getD st.1.length 0))) with
  |none=>none
  |some (b,e)=>if e=0 then some (.inr (st.1++[if b=true then litG s u (s.getD st.1.length 0) else -1],st.2)) else some (.inl e)
def runG(all:Int)(gate:Nat)(nv:Int->Int->Option (Bool×Int))(s:List Int):Nat->Option (Sum Int (List Int×List (Int×Int)))
 |0=>some (.inr ([],[]))
 |n+1=>match runG all gate nv s n with
  |some (.inr st)=>stepG all gate nv s st
  |some (.inl e)=>some (.inl e)
  |none=>none
section
variable {all:Int} {gate:Nat} {nv:Int->Int->Option (Bool×Int)} {s:List Int}
theorem cJg{st st':List Int×List (Int×Int)}(h:stepG all gate nv s st=some (.inr st')):st'.1.length=st.1.length+1/\∀z u,bPr st'.2 z=some u->bPr st.2 z=some u\/u=(st.1.length:Int):=by
 unfold stepG at h
 split at h
 .cases h
  refine⟨by simp,fun z u hz=>?_⟩
  simp only[bPr]at hz
  split at hz
  .cases hz;exact .inr rfl
  .exact .inl hz
 .split at h
  .cases h;exact⟨by simp,fun z u hz=>.inl hz⟩
  .split at h
   .cases h
   .split at h
    .cases h;exact⟨by simp,fun z u hz=>.inl hz⟩
    .cases h
theorem bXw:∀n st,runG all gate nv s n=some (.inr st)->st.1.length=n/\∀z u,bPr st.2 z=some u->∃k:Nat,k<n/\u=(k:Int)
 |0,st,h=>by cases h;exact⟨rfl,fun z u hz=>by cases hz⟩
 |n+1,st,h=>by
  simp only[runG]at h
  split at h
  .rename_i st0 h0
   obtain⟨q1,q2⟩:=bXw n st0 h0
   obtain⟨q3,q4⟩:=cJg h
   refine⟨by omega,fun z u hz=>?_⟩
   rcases q4 z u hz with hq|hq
   .obtain⟨k,k1,k2⟩:=q2 z u hq;exact⟨k,by omega,k2⟩
   .exact⟨n,by omega,by omega⟩
  .cases h
  .cases h
theorem cMm{N:Nat}{r:Sum Int (List Int×List (Int×Int))}(h:runG all gate nv s N=some r):∀n,n<=N->(∃st,runG all gate nv s n=some (.inr st))\/∃e,runG all gate nv s n=some (.inl e)/\r = .inl e:=by
 induction N generalizing r with
 |zero=>intro n hn;cases n with
  |zero=>exact .inl ⟨_,rfl⟩
  |succ n=>omega
 |succ N ih=>
  intro n hn
  have h':=h
  simp only[runG]at h
  by_cases hE:n=N+1
  .subst hE
   rw[h']
   cases r with
   |inl e=>exact .inr ⟨e,rfl,rfl⟩
   |inr st=>exact .inl ⟨st,rfl⟩
  .split at h
   .rename_i st0 h0
    rcases ih h0 n (by omega) with q|⟨e,q1,q2⟩
    .exact .inl q
    .cases q2
   .rename_i e h0
    cases h
    exact ih h0 n (by omega)
   .cases h
end
def GivEnd(ans:Sum Int (List Int×List (Int×Int)))(N:Nat)(w:World)(e:Ending)(w':World):Prop:=
 (∃st T,ans = .inr st/\e = .returned (.tuple #[.slice (some ⟨T,0,none⟩) N N,.int .i64 0])/\w.heap.size<=T/\Below w.heap.size w w'/\Flat w' T 0 N st.1) \/
 ∃er,ans = .inl er/\e = .returned (.tuple #[.slice none 0 0,.int .i64 er])/\Below w.heap.size w w'
structure GI(st:List Int×List (Int×Int))(N:Nat)(Mb T:Nat)(W0:World)(n:Nat)(wr:World):Prop where
 map:∃cnt,cnt<=n/\bGj Tryz.prog 54 3 encU Mb cnt (bPr st.2) wr
 row:Flat wr T 0 N (st.1++List.replicate (N-n) (-1))
 left:Left (fun k=>k=Mb\/k=T) W0 wr
theorem cNt(op:BinOp)(a b:Int):0<=bits op IntKind.u64 a b/\bits op IntKind.u64 a b<=18446744073709551615:=by
 have h:∀n:Int,0<=IntKind.u64.wrap n/\IntKind.u64.wrap n<=18446744073709551615:=fun n=>by rw[IntKind.wrap_u64];omega
 unfold bits
 split<;>exact h _
theorem bit1(a:Int):bits BinOp.and IntKind.u64 a 1=0\/bits BinOp.and IntKind.u64 a 1=1:=by
 have hx:((BitVec.ofInt 64 a)&&&(BitVec.ofInt 64 1)).toNat=(BitVec.ofInt 64 a).toNat%2:=by
  rw[BitVec.toNat_and]
  have h3:(BitVec.ofInt 64 1).toNat=1:=by decide
  rw[h3,Nat.and_one_is_mod]
 show IntKind.wrap .u64 (((BitVec.ofInt 64 a)&&&(BitVec.ofInt 64 1)).toNat:Int)=0\/IntKind.wrap .u64 (((BitVec.ofInt 64 a)&&&(BitVec.ofInt 64 1)).toNat:Int)=1
 rw[hx]
 have h2:(BitVec.ofInt 64 a).toNat%2=0\/(BitVec.ofInt 64 a).toNat%2=1:=by omega
 rcases h2 with h|h<;>rw[h]<;>simp[IntKind.wrap_u64]
theorem GI.more{st:List Int×List (Int×Int)}{N Mb T:Nat}{W0 wr w':World}{n:Nat}(h:GI st N Mb T W0 n wr)(hb:Below wr.heap.size wr w'):GI st N Mb T W0 n w':=by
 obtain⟨cnt,h1,h2⟩:=h.map
 exact⟨⟨cnt,h1,h2.kept (row:=none) ⟨hb.os,hb.tape,hb.output,hb.size,fun k hk _=>hb.block k hk⟩ (by simp)⟩,h.row.kept (hb.block _ h.row.lt),h.left.trans (Left.of_below hb)⟩
theorem GI.quiet{st:List Int×List (Int×Int)}{N Mb T:Nat}{W0 wr:World}{n:Nat}(h:GI st N Mb T W0 n wr)(hn:n<N):GI (st.1++[-1],st.2) N Mb T W0 (n+1) wr:=by
 obtain⟨cnt,h1,h2⟩:=h.map
 refine⟨⟨cnt,by omega,h2⟩,?_,h.left⟩
 have:=h.row
 rw[List.append_assoc]
 rw[show N-n=(N-(n+1))+1 by omega,List.replicate_succ]at this
 exact this
theorem GI.put{st:List Int×List (Int×Int)}{N Mb T:Nat}{W0 wr w':World}{n:Nat}(h:GI st N Mb T W0 n wr)(hn:n<N){f:Int}(hne:T≠Mb)(hg:wr.grownBy w' (some Mb)){cnt:Nat}(hc:cnt<=n)(hm:bGj Tryz.prog 54 3 encU Mb (cnt+1) (bPr ((f,(n:Int))::st.2)) w'):GI (st.1++[-1],(f,(n:Int))::st.2) N Mb T W0 (n+1) w':=by
 refine⟨⟨cnt+1,by omega,hm⟩,?_,h.left.trans (Left.of_grown hg (fun k hk=>.inl (Option.some.inj hk).symm))⟩
 have:=h.row.kept (hg.block T h.row.lt (fun e=>hne (Option.some.inj e)))
 rw[List.append_assoc]
 rw[show N-n=(N-(n+1))+1 by omega,List.replicate_succ]at this
 exact this
theorem GI.tell{st:List Int×List (Int×Int)}{N Mb T:Nat}{W0 wr:World}{n:Nat}(h:GI st N Mb T W0 n wr)(hn:n<N){x:Int}(hl:st.1.length=n)(hne:T≠Mb):GI (st.1++[x],st.2) N Mb T W0 (n+1) (wr.setCell ⟨T,n,none⟩ (.int .i64 x)):=by
 obtain⟨cnt,h1,D,d1,d2⟩:=h.map
 refine⟨⟨cnt,by omega,⟨D,d1.setCell (Ne.symm hne) _,d2⟩⟩,?_,h.left.trans ⟨rfl,rfl,rfl,by simp,fun k hk hnk=>Below.heap_setCell _ _ _ _ (fun e=>hnk (.inr e))⟩⟩
 have hget:(st.1++List.replicate (N-n) (-1:Int))[n]?=some (-1):=by
  rw[List.getElem?_append_right (by omega),hl,Nat.sub_self,List.getElem?_replicate_of_lt (by omega)]
 have:=h.row.set (y:=x) hget
 rw[List.set_append_right _ _ (by omega),hl,Nat.sub_self,show N-n=(N-(n+1))+1 by omega,List.replicate_succ,List.set_cons_zero]at this
 rw[List.append_assoc]
 simpa using this
end
section
def SigDo(arg:Value)(s:List Int)(N:Nat)(w:World):Prop:=
 ∀W,Below w.heap.size w W->Calls Tryz.prog 18 #[arg] W fun e w'=>∃S o c,e = .returned (.tuple #[.slice (some ⟨S,o,none⟩) N c,.int .i64 0])/\Below W.heap.size W w'/\∀j x,s[j]?=some x->w'.cell? ⟨S,o+j,none⟩=some (.int .u64 x)
theorem bDd(all x:Int):(bits BinOp.and IntKind.u64 x 1=1/\bGx all x=bits BinOp.and IntKind.u64 (bits BinOp.xor IntKind.u64 IntKind.u64.max x) all)\/(¬bits BinOp.and IntKind.u64 x 1=1/\bGx all x=x):=by
 by_cases h:bits BinOp.and IntKind.u64 x 1=1
 .exact .inl ⟨h,by unfold bGx notU;rw[if_pos h]⟩
 .exact .inr ⟨h,by unfold bGx;rw[if_neg h]⟩
theorem cNc{all x:Int}(h:0<=x/\x<=18446744073709551615):(Lit.int .u64 (bGx all x)).wf=true:=by
 rcases bDd all x with⟨_,hf⟩|⟨_,hf⟩<;>rw[hf]
 .exact WalkArith.wf_u64 (cNt _ _ _)
 .exact WalkArith.wf_u64 h
set_option maxRecDepth 1000000 in
set_option maxHeartbeats 4000000 in
theorem cG2(i budget:Int)(l c1 n2 c2 n3 c3 n4 c4:Nat)(A1 A2 A3 A4:Option Addr)(s:List Int)(all:Int)(N gate:Nat)(w:World)(i0:0<=i)(ii:i<=1000)(ll:l<=1000)(nv:Int->Int->Option (Bool×Int))(ans:Sum Int (List Int×List (Int×Int)))(hgate:(gate:Int)=i+l+1)(hb0:0<=budget)(hb1:budget<=100000)
  (hans:runG all gate nv s N=some ans)
  (hNv:∀(x y:Int) (b:Bool) (z:Int) (W:World),nv x y=some (b,z)->Below w.heap.size w W->Calls Tryz.prog 34 #[.agg #[.int .i64 i,.slice A1 l c1,.slice A2 n2 c2,.slice A3 n3 c3,.slice A4 n4 c4],.int .i64 x,.int .i64 y,.int .i64 budget] W fun e w'=>e = .returned (.tuple #[.bool b,.int .i64 z])/\Below W.heap.size W w')
  (hsN:s.length=N) (hN:N<=3001) (hN1:1<=N) (hr:∀x∈s,0<=x/\x<=18446744073709551615)
  (hS:SigDo (.agg #[.int .i64 i,.slice A1 l c1,.slice A2 n2 c2,.slice A3 n3 c3,.slice A4 n4 c4]) s N w)
  (hAll:∀W,Below w.heap.size w W->Calls Tryz.prog 32 #[.agg #[.int .i64 i,.slice A1 l c1,.slice A2 n2 c2,.slice A3 n3 c3,.slice A4 n4 c4]] W fun e w'=>e = .returned (.int .u64 all)/\Below W.heap.size W w')
  (hM:∀W,Below w.heap.size w W->Calls Tryz.prog 55 #[.int .u64 1,.int .u64 (N:Int)] W fun e w'=>e = .returned (.tuple #[.int .u64 0,.int .u64 (N:Int)])/\Below W.heap.size W w') :
  Calls Tryz.prog 11 #[.agg #[.int .i64 i,.slice A1 l c1,.slice A2 n2 c2,.slice A3 n3 c3,.slice A4 n4 c4],.int .i64 budget] w (GivEnd ans N w):=by
 have hb1':Below w.heap.size w (w.alloc (.cells #[.int .i64 i,.slice A1 l c1,.slice A2 n2 c2,.slice A3 n3 c3,.slice A4 n4 c4] 26)):=(Below.refl _ w).alloc (Nat.le_refl _) _
 have R0:=hS _ hb1'
 have KB:=Hd.mk hb1';have KAll:=Hd.mk hAll;have KM:=Hd.mk hM;have KR:=Hd.mk hr;have KNv:=Hd.mk hNv;have KA:=Hd.mk hans;have KN:=Hd.mk hsN;have KG:=Hd.mk hgate
 clear hNv hans hS hAll hM hr hb1' hsN hgate
 have hmm:=@run_makeMap Tryz.prog
 go_enter Tryz.func11,Tryz.ntmps11
 go_wp2_with (first|(go_at_call 18;refine R0.mono ?_;rintro e w1 ⟨S,So,sc,rfl,hb,hcs⟩;have K1:=Hd.mk hb;have K2:=Hd.mk hcs;have hlt1:w.heap.size<w1.heap.size:=(by have:=hb.size;simp at this;omega);have hbox:w1.heap[w.heap.size]?=some (.cells #[.int .i64 i,.slice A1 l c1,.slice A2 n2 c2,.slice A3 n3 c3,.slice A4 n4 c4] 26 (0,0)):=(hb.block _ (by simp)).trans Array.getElem?_push_size;have e0:w1.cell? ⟨w.heap.size,0,none⟩=some (.int .i64 i):=(by simp[World.cell?,hbox]);have e1:w1.cell? ⟨w.heap.size,1,none⟩=some (.slice A1 l c1):=(by simp[World.cell?,hbox]);have e2:w1.cell? ⟨w.heap.size,2,none⟩=some (.slice A2 n2 c2):=(by simp[World.cell?,hbox]);have e3:w1.cell? ⟨w.heap.size,3,none⟩=some (.slice A3 n3 c3):=(by simp[World.cell?,hbox]);have e4:w1.cell? ⟨w.heap.size,4,none⟩=some (.slice A4 n4 c4):=(by simp[World.cell?,hbox]);have KX:=Hd.mk hbox;clear hb hcs hbox)|(go_at_call 32;refine(KAll.out _ (KB.out.trans (K1.out.mono (by simp)))).mono ?_;rintro e w2 ⟨rfl,hb⟩;have K3:=Hd.mk hb;have hlt2:w.heap.size<w2.heap.size:=(by have:=hb.size;omega);have d0:w2.cell? ⟨w.heap.size,0,none⟩=some (.int .i64 i):=(hb.cell (p:=⟨w.heap.size,0,none⟩) hlt1).trans e0;have d1:w2.cell? ⟨w.heap.size,1,none⟩=some (.slice A1 l c1):=(hb.cell (p:=⟨w.heap.size,1,none⟩) hlt1).trans e1;have d2:w2.cell? ⟨w.heap.size,2,none⟩=some (.slice A2 n2 c2):=(hb.cell (p:=⟨w.heap.size,2,none⟩) hlt1).trans e2;have d3:w2.cell? ⟨w.heap.size,3,none⟩=some (.slice A3 n3 c3):=(hb.cell (p:=⟨w.heap.size,3,none⟩) hlt1).trans e3;have d4:w2.cell? ⟨w.heap.size,4,none⟩=some (.slice A4 n4 c4):=(hb.cell (p:=⟨w.heap.size,4,none⟩) hlt1).trans e4;clear hb e0 e1 e2 e3 e4))
 have hX0:((w2.alloc (.map #[] 0)).alloc (.cells #[.int .i64 (-1)] 3)).heap[w2.heap.size+1]?=some (.cells #[.int .i64 (-1)] 3 (0,0)):=by
  have:w2.heap.size+1=(w2.alloc (.map #[] 0)).heap.size:=by simp
  rw[this]
  exact Array.getElem?_push_size
 have hB3:Below w.heap.size w ((w2.alloc (.map #[] 0)).alloc (.cells #[.int .i64 (-1)] 3)):=(((KB.out.trans (K1.out.mono (by simp))).trans (K3.out.mono (by omega))).alloc (by omega) _).alloc (by simp;omega) _
 have hmap0:bGj Tryz.prog 54 3 encU w2.heap.size 0 (fun _=>none) ((w2.alloc (.map #[] 0)).alloc (.cells #[.int .i64 (-1)] 3)):=(bGj.made (P:=Tryz.prog) (k:=54) (e:=3) (enc:=encU) (w:=w2)).kept (World.grownBy_alloc _ _ none) (by simp)
 have K4:=Hd.mk hB3;have K5:=Hd.mk hmap0
 refine(cB6 (w2.heap.size+1) 0 1 N _ hN hN1 (cell_of_one hX0) (fun W hb=>KM.out W (K4.out.trans (hb.mono (by simp;omega))))).mono ?_
 rintro e w3 ⟨T,rfl,hT,hb4,hrow⟩
 have hs4:((w2.alloc (.map #[] 0)).alloc (.cells #[.int .i64 (-1)] 3)).heap.size=w2.heap.size+2:=by simp
 rw[hs4]at hT hb4
 have hTlt:T<w3.heap.size:=lt_of_block hrow
 have hmap1:bGj Tryz.prog 54 3 encU w2.heap.size 0 (fun _=>none) w3:=K5.out.kept (row:=none) ⟨hb4.os,hb4.tape,hb4.output,by rw[hs4];have:=hb4.size;omega,fun k hk _=>hb4.block k (by rw[<-hs4];exact hk)⟩ (by simp)
 have hlow:∀k,k<w2.heap.size->w3.heap[k]?=w2.heap[k]?:=fun k hk=>by
  rw[hb4.block k (by omega),Below.heap_alloc _ _ _ (by simp;omega),Below.heap_alloc _ _ _ hk]
 have d0':=(World.cell?_of_block (a:=⟨w.heap.size,0,none⟩) (hlow _ hlt2)).trans d0
 have d1':=(World.cell?_of_block (a:=⟨w.heap.size,1,none⟩) (hlow _ hlt2)).trans d1
 have d2':=(World.cell?_of_block (a:=⟨w.heap.size,2,none⟩) (hlow _ hlt2)).trans d2
 have d3':=(World.cell?_of_block (a:=⟨w.heap.size,3,none⟩) (hlow _ hlt2)).trans d3
 have d4':=(World.cell?_of_block (a:=⟨w.heap.size,4,none⟩) (hlow _ hlt2)).trans d4
 have D2:=Hd.mk d2';have D3:=Hd.mk d3';have D4:=Hd.mk d4'
 have hsc:∀j,j<N->w3.cell? ⟨S,So+j,none⟩=some (.int .u64 (s.getD j 0)):=fun j hj=>by
  have h1:=K2.out j (s.getD j 0) (by rw[List.getElem?_eq_getElem (by rw[KN.out];exact hj)];simp[List.getD,List.getElem?_eq_getElem (show j<s.length by rw[KN.out];exact hj)])
  have hS:=World.block_lt_of_cell? _ _ h1
  have h2:w2.cell? ⟨S,So+j,none⟩=_:=(K3.out.cell (p:=⟨S,So+j,none⟩) hS).trans h1
  exact(World.cell?_of_block (a:=⟨S,So+j,none⟩) (hlow S (World.block_lt_of_cell? _ _ h2))).trans h2
 have hSl:S<w1.heap.size:=by
  have h1:=K2.out 0 (s.getD 0 0) (by rw[List.getElem?_eq_getElem (by rw[KN.out];omega)];simp[List.getD,List.getElem?_eq_getElem (show 0<s.length by rw[KN.out];omega)])
  exact World.block_lt_of_cell? _ _ h1
 have hsz12:=K3.out.size
 have hI0:GI ([],[]) N w2.heap.size T w3 0 w3:=by
  refine⟨⟨0,Nat.le_refl _,hmap1⟩,⟨_,3,hrow,by simp,fun j x hx=>?_⟩,Left.refl _ _⟩
  have hj:j<N:=by simpa using(List.getElem?_eq_some_iff.1 hx).1
  simp only[List.nil_append,Nat.sub_zero]at hx
  rw[List.getElem?_replicate_of_lt hj]at hx
  cases hx
  simp[hj]
 have K6:=Hd.mk hI0;have K7:=Hd.mk hsc;have K8:=Hd.mk (K4.out.trans (hb4.mono (by omega)))
 clear hX0 hB3 hmap0 hrow hmap1 hlow hsc hI0 d0 d1 d2 d3 d4 d2' d3' d4' hmm hb4
 go_wp2
 have D0:=Hd.mk d0';have D1:=Hd.mk d1'
 clear d0' d1'
 go_loopw [49] (fun c wr=>∃(n:Nat) (st:List Int×List (Int×Int)),n<=N/\c = .int .i64 n/\runG all gate nv s n=some (.inr st)/\GI st N w2.heap.size T w3 n wr) (fun c _=>N-(intOf c).toNat)
 case atStart=>exact⟨0,([],[]),Nat.zero_le _,rfl,rfl,K6.out⟩
 case round=>
  obtain⟨n,st,hn,rfl,hrun,hI⟩:=hrel
  by_cases hnN:n<N
  .have hx:wr.cell? ⟨S,So+n,none⟩=some (.int .u64 (s.getD n 0)):=(World.cell?_of_block (a:=⟨S,So+n,none⟩) (hI.left.block S (by omega) (by omega))).trans (K7.out n hnN)
   have hxr:0<=s.getD n 0/\s.getD n 0<=18446744073709551615:=KR.out _ (by
    have:n<s.length:=by rw[KN.out];exact hnN
    simp only[List.getD,List.getElem?_eq_getElem this,Option.getD_some]
    exact List.getElem_mem this)
   obtain⟨hlen,hlook0⟩:=bXw n st hrun
   have hnext:runG all gate nv s (n+1)=stepG all gate nv s st:=by simp only[runG,hrun]
   have hpre:=cMm KA.out (n+1) hnN
   rw[hnext]at hpre
   unfold stepG at hpre hnext
   rw[hlen]at hpre hnext
   have KI:=Hd.mk hI
   have hgh:∀o,wr.cell? ⟨w.heap.size,o,none⟩=w3.cell? ⟨w.heap.size,o,none⟩:=fun o=>World.cell?_of_block (a:=⟨w.heap.size,o,none⟩) (hI.left.block w.heap.size (by omega) (by omega))
   have r0:=(hgh 0).trans D0.out;have r1:=(hgh 1).trans D1.out;have r2:=(hgh 2).trans D2.out;have r3:=(hgh 3).trans D3.out;have r4:=(hgh 4).trans D4.out
   have KBr:Hd (Below w.heap.size w wr):=⟨⟨hI.left.os.trans K8.out.os,hI.left.tape.trans K8.out.tape,hI.left.output.trans K8.out.output,Nat.le_trans K8.out.size hI.left.size,fun j hj=>(hI.left.block j (Nat.lt_of_lt_of_le hj K8.out.size) (by omega)).trans (K8.out.block j hj)⟩⟩
   obtain⟨x,hxE⟩:∃x,x=s.getD n 0:=⟨_,rfl⟩
   rw[<-hxE]at hx hxr hpre hnext
   have hkey:=keyU (x:=bGx all x) (cNc hxr)
   obtain⟨cnt,hcnt,hmap⟩:=hI.map
   have hlook:=hmap.look (x:=bGx all x) (t:=71) cKk Tryz.underlying71 Tryz.underlying3 (cL3 _) hkey
   unfold encU at hlook
   have KH0:=Hd.mk hlook0;have KLen:=Hd.mk hlen;have KRun:=Hd.mk hrun
   clear hI hxE hgh hlook0 hlen hrun
   cases hlk:bPr st.2 (bGx all x) with
   |none=>
    rw[hlk]at hlook hnext hpre
    simp only[Option.getD_none,Option.isSome_none]at hlook hnext
    obtain⟨D,d1,d2⟩:=hmap
    have KD2:=Hd.mk d2;have KD1:=Hd.mk d1;have KS:=Hd.mk hnext
    have hput:=fun w' h3=>bGj.put (w':=w') (x:=bGx all x) (c:=(n:Int)) cNg hkey cKk d1 d2 h3
    clear d1 d2 hnext hpre hlk r0 r1 r2 r3 r4
    rcases bDd all x with⟨hodd,hf⟩|⟨hodd,hf⟩
    all_goals
     rw[hf]at hkey hlook hput KS
     have KK:=Hd.mk hkey;have KP:=Hd.mk hput
     clear hkey hf hput
     go_wp2_with (refine wpList_mapUpdate_own _ rfl _ _ _ 71 rfl 54 3 cKk Tryz.underlying71 _ w2.heap.size cnt D rfl KD1.out (by unfold maxLen;omega) _ _ _ rfl rfl KK.out _ _ (plainElem_int Tryz.underlying3 (bHp (by omega) (by omega))) ?_;intro w5 hm5 hg5;have G1:=Hd.mk hm5;have G2:=Hd.mk hg5;clear hm5 hg5)
     all_goals go_roundw
     case rel=>exact⟨n+1,_,by omega,by go_num,KS.out,KI.out.put hnN (by omega) G2.out hcnt (KP.out _ G1.out)⟩
     case measure=>simp[intOf];omega
   |some u=>
    rw[hlk]at hlook hnext hpre
    simp only[Option.getD_some,Option.isSome_some]at hlook hnext hpre
    obtain⟨k,hkn,rfl⟩:=KH0.out _ _ hlk
    clear hmap hkey hlk
    by_cases hgn:n<gate
    .rw[if_pos hgn]at hnext
     have hgn':(n:Int)<i+l+1:=by have:=KG.out;omega
     have KS:=Hd.mk hnext
     clear hnext hpre r2 r3 r4
     rcases bDd all x with⟨hodd,hf⟩|⟨hodd,hf⟩
     all_goals
      rw[hf]at hlook
      clear hf
      go_wp2
      all_goals go_roundw
      case rel=>exact⟨n+1,_,by omega,by go_num,KS.out,KI.out.quiet hnN⟩
      case measure=>simp[intOf];omega
    .rw[if_neg hgn]at hnext hpre
     have hgn':i+(l:Int)+1<=(n:Int):=by have:=KG.out;omega
     have hu:wr.cell? ⟨S,So+k,none⟩=some (.int .u64 (s.getD k 0)):=(World.cell?_of_block (a:=⟨S,So+k,none⟩) (KI.out.left.block S (by omega) (by omega))).trans (K7.out k (by omega))
     have hkn2:k<N:=by omega
     unfold litG at hnext hpre
     simp only[Int.toNat_natCast]at hnext hpre
     generalize s.getD k 0=sk at hnext hpre hu
     have hb1:bits BinOp.and IntKind.u64 (bits BinOp.xor IntKind.u64 sk x) 1=0\/bits BinOp.and IntKind.u64 (bits BinOp.xor IntKind.u64 sk x) 1=1:=bit1 _
     obtain⟨bt,hbt⟩:∃b,bits BinOp.and IntKind.u64 (bits BinOp.xor IntKind.u64 sk x) 1=b:=⟨_,rfl⟩
     rw[hbt]at hb1 hnext hpre
     have hT:∀w5,Below wr.heap.size wr w5->w5.cell? ⟨T,n,none⟩=some (.int .i64 (-1))/\w5.frozen? ⟨T,n,none⟩=false:=fun w5 hb=>by
      have hl:=KLen.out
      have:=(KI.out.more hb).row.cell (j:=n) (x:=-1) (by rw[List.getElem?_append_right (by omega),hl,Nat.sub_self,List.getElem?_replicate_of_lt (by omega)])
      exact⟨by simpa using this,(KI.out.more hb).row.frozen n⟩
     by_cases hfw:gate<=7
     .have hfw':i+(l:Int)<=6:=by have:=KG.out;omega
      rw[if_pos hfw]at hnext
      simp only[if_true]at hnext
      have KS:=Hd.mk hnext
      obtain⟨hT1,hT2⟩:=hT wr (Below.refl _ _)
      clear hnext hpre hT r2 r3 r4
      rcases bDd all x with⟨hodd,hf⟩|⟨hodd,hf⟩
      all_goals
       rw[hf]at hlook
       clear hf
       go_wp2
       all_goals go_roundw
       case rel=>exact⟨n+1,_,by omega,by go_num,KS.out,KI.out.tell hnN KLen.out (by omega)⟩
       case measure=>simp[intOf];omega
     .have hfd:decide (i+(l:Int)<=6)=false:=decide_eq_false (by have:=KG.out;omega)
      rw[if_neg hfw]at hnext hpre
      unfold bQm at hnext hpre
      have hx1:bits BinOp.xor IntKind.i64 (2*(k:Int)+bt) 1=negI (2*(k:Int)+bt):=xor1 (by omega) (by omega)
      have hbt0:0<=bt/\bt<=1:=by omega
      have hwr:w.heap.size<=wr.heap.size:=KBr.out.size
      have hHl:w.heap.size<wr.heap.size:=World.block_lt_of_cell? _ _ r0
      have KT:=Hd.mk hT
      clear hT hb1
      cases h1:nv (2*(n:Int)) (negI (2*(k:Int)+bt)) with
      |none=>rw[h1]at hpre;exfalso;simp at hpre
      |some r1=>
       obtain⟨x1,y1⟩:=r1
       rw[h1]at hpre hnext
       have R1:=Hd.mk (KNv.out _ _ _ _ wr h1 KBr.out)
       clear h1
       by_cases hy1:y1=0
       .subst hy1
        cases x1 with
        |false=>
         simp only[Bool.false_eq_true,and_false,if_false,if_true]at hnext
         have KS:=Hd.mk hnext
         clear hnext hpre
         rcases bDd all x with⟨hodd,hf⟩|⟨hodd,hf⟩
         all_goals
          rw[hf]at hlook
          clear hf
          go_wp2_with (go_at_call 34;refine R1.out.mono ?_;rintro e w5 ⟨rfl,hb5⟩;have G5:=Hd.mk hb5;clear hb5)
          all_goals go_roundw
          case rel=>exact⟨n+1,_,by omega,by go_num,KS.out,(KI.out.more G5.out).quiet hnN⟩
          case measure=>simp[intOf];omega
        |true=>
         simp only[and_self,if_true]at hnext hpre
         cases h2:nv (2*(n:Int)+1) (2*(k:Int)+bt) with
         |none=>rw[h2]at hpre;exfalso;simp at hpre
         |some r2'=>
          obtain⟨x2,y2⟩:=r2'
          rw[h2]at hpre hnext
          have KH2:=Hd.mk h2
          clear h2
          by_cases hy2:y2=0
          .subst hy2
           cases x2 with
           |false=>
            simp only[Bool.false_eq_true,if_false,if_true]at hnext
            have KS:=Hd.mk hnext
            clear hnext hpre
            rcases bDd all x with⟨hodd,hf⟩|⟨hodd,hf⟩
            all_goals
             rw[hf]at hlook
             clear hf
             go_wp2_with (first|(go_at_call 34;refine R1.out.mono ?_;rintro e w5 ⟨rfl,hb5⟩;have G5:=Hd.mk hb5;have z0:=(hb5.cell (p:=⟨w.heap.size,0,none⟩) hHl).trans r0;have z1:=(hb5.cell (p:=⟨w.heap.size,1,none⟩) hHl).trans r1;have z2:=(hb5.cell (p:=⟨w.heap.size,2,none⟩) hHl).trans r2;have z3:=(hb5.cell (p:=⟨w.heap.size,3,none⟩) hHl).trans r3;have z4:=(hb5.cell (p:=⟨w.heap.size,4,none⟩) hHl).trans r4;clear hb5 R1)|(go_at_call 34;refine(KNv.out _ _ _ _ _ KH2.out (KBr.out.trans (G5.out.mono hwr))).mono ?_;rintro e w6 ⟨rfl,hb6⟩;have G6:=Hd.mk (G5.out.trans (hb6.mono G5.out.size));clear hb6))
             all_goals go_roundw
             case rel=>exact⟨n+1,_,by omega,by go_num,KS.out,(KI.out.more G6.out).quiet hnN⟩
             case measure=>simp[intOf];omega
           |true=>
            simp only[if_true]at hnext
            have KS:=Hd.mk hnext
            clear hnext hpre
            rcases bDd all x with⟨hodd,hf⟩|⟨hodd,hf⟩
            all_goals
             rw[hf]at hlook
             clear hf
             go_wp2_with (first|(go_at_call 34;refine R1.out.mono ?_;rintro e w5 ⟨rfl,hb5⟩;have G5:=Hd.mk hb5;have z0:=(hb5.cell (p:=⟨w.heap.size,0,none⟩) hHl).trans r0;have z1:=(hb5.cell (p:=⟨w.heap.size,1,none⟩) hHl).trans r1;have z2:=(hb5.cell (p:=⟨w.heap.size,2,none⟩) hHl).trans r2;have z3:=(hb5.cell (p:=⟨w.heap.size,3,none⟩) hHl).trans r3;have z4:=(hb5.cell (p:=⟨w.heap.size,4,none⟩) hHl).trans r4;clear hb5 R1)|(go_at_call 34;refine(KNv.out _ _ _ _ _ KH2.out (KBr.out.trans (G5.out.mono hwr))).mono ?_;rintro e w6 ⟨rfl,hb6⟩;have G6:=Hd.mk (G5.out.trans (hb6.mono G5.out.size));clear hb6;obtain⟨hT1,hT2⟩:=KT.out w6 G6.out))
             all_goals go_roundw
             case rel=>exact⟨n+1,_,by omega,by go_num,KS.out,(KI.out.more G6.out).tell hnN KLen.out (by omega)⟩
             case measure=>simp[intOf];omega
          .have hE:ans = .inl y2:=by
            simp only[if_neg hy2,reduceCtorEq,Option.some.injEq,Sum.inl.injEq,exists_const,false_or]at hpre
            obtain⟨e,rfl,h⟩:=hpre
            exact h
           have hy2':(y2==0)=false:=beq_false_of_ne hy2
           have KE:=Hd.mk hE
           clear hE hnext hpre
           rcases bDd all x with⟨hodd,hf⟩|⟨hodd,hf⟩
           all_goals
            rw[hf]at hlook
            clear hf
            go_wp2_with (first|(go_at_call 34;refine R1.out.mono ?_;rintro e w5 ⟨rfl,hb5⟩;have G5:=Hd.mk hb5;have z0:=(hb5.cell (p:=⟨w.heap.size,0,none⟩) hHl).trans r0;have z1:=(hb5.cell (p:=⟨w.heap.size,1,none⟩) hHl).trans r1;have z2:=(hb5.cell (p:=⟨w.heap.size,2,none⟩) hHl).trans r2;have z3:=(hb5.cell (p:=⟨w.heap.size,3,none⟩) hHl).trans r3;have z4:=(hb5.cell (p:=⟨w.heap.size,4,none⟩) hHl).trans r4;clear hb5 R1)|(go_at_call 34;refine(KNv.out _ _ _ _ _ KH2.out (KBr.out.trans (G5.out.mono hwr))).mono ?_;rintro e w6 ⟨rfl,hb6⟩;have G6:=Hd.mk (G5.out.trans (hb6.mono G5.out.size));clear hb6))
            go_ret2
            exact .inr ⟨_,KE.out,rfl,KBr.out.trans (G6.out.mono hwr)⟩
       .have hE:ans = .inl y1:=by
         simp only[hy1,false_and,if_false,reduceCtorEq,Option.some.injEq,Sum.inl.injEq,exists_const,false_or]at hpre
         obtain⟨e,rfl,h⟩:=hpre
         exact h
        have hy1':(y1==0)=false:=beq_false_of_ne hy1
        have KE:=Hd.mk hE
        clear hE hnext hpre
        rcases bDd all x with⟨hodd,hf⟩|⟨hodd,hf⟩
        all_goals
         rw[hf]at hlook
         clear hf
         go_wp2_with (go_at_call 34;refine R1.out.mono ?_;rintro e w5 ⟨rfl,hb5⟩;have G5:=Hd.mk hb5;clear hb5)
         go_ret2
         exact .inr ⟨_,KE.out,rfl,KBr.out.trans (G5.out.mono hwr)⟩
  .have hnE:n=N:=by omega
   subst hnE
   have KI:=Hd.mk hI;have KRun:=Hd.mk hrun
   clear hI hrun
   go_wp2
   go_ret2
   have hE:ans = .inr st:=by have:=KA.out.symm.trans KRun.out;exact Option.some.inj this
   refine .inl ⟨st,T,hE,rfl,by omega,⟨KI.out.left.os.trans K8.out.os,KI.out.left.tape.trans K8.out.tape,KI.out.left.output.trans K8.out.output,Nat.le_trans K8.out.size KI.out.left.size,fun j hj=>(KI.out.left.block j (Nat.lt_of_lt_of_le hj K8.out.size) (by omega)).trans (K8.out.block j hj)⟩,?_⟩
   have:=KI.out.row
   simpa using this
end
end Go.Proofs.YtjkoadoekaplpaaGreat
namespace Go.Proofs.YtjkoadoekaplpaaGreat
open Go Go.RowKit
set_option maxRecDepth 1000000 in
set_option maxHeartbeats 4000000 in
set_option linter.unusedVariables false
set_option linter.unusedSimpArgs false
section
theorem cG4(i budget er:Int)(l c1 n2 c2 n3 c3 n4 c4:Nat)(A1 A2 A3 A4:Option Addr)(w:World)(hne:er≠0)
  (hS:∀W,Below w.heap.size w W->Calls Tryz.prog 18 #[.agg #[.int .i64 i,.slice A1 l c1,.slice A2 n2 c2,.slice A3 n3 c3,.slice A4 n4 c4]] W fun e w'=>∃x,e = .returned (.tuple #[x,.int .i64 er])/\Below W.heap.size W w') :
  Calls Tryz.prog 11 #[.agg #[.int .i64 i,.slice A1 l c1,.slice A2 n2 c2,.slice A3 n3 c3,.slice A4 n4 c4],.int .i64 budget] w fun e w'=>e = .returned (.tuple #[.slice none 0 0,.int .i64 er])/\Below w.heap.size w w':=by
 have hb1':Below w.heap.size w (w.alloc (.cells #[.int .i64 i,.slice A1 l c1,.slice A2 n2 c2,.slice A3 n3 c3,.slice A4 n4 c4] 26)):=(Below.refl _ w).alloc (Nat.le_refl _) _
 have R0:=hS _ hb1'
 have KB:=Hd.mk hb1'
 have he:(er==0)=false:=beq_false_of_ne hne
 clear hS hb1' hne
 go_enter Tryz.func11,Tryz.ntmps11
 go_wp2_with (go_at_call 18;refine R0.mono ?_;rintro e w1 ⟨x,rfl,hb⟩;have K1:=Hd.mk hb;clear hb)
 go_ret2
 exact⟨rfl,KB.out.trans (K1.out.mono (by simp))⟩
set_option maxRecDepth 1000000 in
set_option maxHeartbeats 4000000 in
theorem cG3(i budget:Int)(l c1 n2 c2 n3 c3 n4 c4:Nat)(A1 A2 A3 A4:Option Addr)(w:World)(hb:budget<0\/100000<budget)
  (hS:∀W,Below w.heap.size w W->Calls Tryz.prog 18 #[.agg #[.int .i64 i,.slice A1 l c1,.slice A2 n2 c2,.slice A3 n3 c3,.slice A4 n4 c4]] W fun e w'=>∃x,e = .returned (.tuple #[x,.int .i64 0])/\Below W.heap.size W w') :
  Calls Tryz.prog 11 #[.agg #[.int .i64 i,.slice A1 l c1,.slice A2 n2 c2,.slice A3 n3 c3,.slice A4 n4 c4],.int .i64 budget] w fun e w'=>e = .returned (.tuple #[.slice none 0 0,.int .i64 2])/\Below w.heap.size w w':=by
 have hb1':Below w.heap.size w (w.alloc (.cells #[.int .i64 i,.slice A1 l c1,.slice A2 n2 c2,.slice A3 n3 c3,.slice A4 n4 c4] 26)):=(Below.refl _ w).alloc (Nat.le_refl _) _
 have R0:=hS _ hb1'
 have KB:=Hd.mk hb1'
 clear hS hb1'
 by_cases hb0:budget<0
 .clear hb
  go_enter Tryz.func11,Tryz.ntmps11
  go_wp2_with (go_at_call 18;refine R0.mono ?_;rintro e w1 ⟨x,rfl,hb⟩;have K1:=Hd.mk hb;clear hb)
  go_ret2
  exact⟨rfl,KB.out.trans (K1.out.mono (by simp))⟩
 .have hb2:100000<budget:=by omega
  clear hb
  go_enter Tryz.func11,Tryz.ntmps11
  go_wp2_with (go_at_call 18;refine R0.mono ?_;rintro e w1 ⟨x,rfl,hb⟩;have K1:=Hd.mk hb;clear hb)
  go_ret2
  exact⟨rfl,KB.out.trans (K1.out.mono (by simp))⟩
end
end Go.Proofs.YtjkoadoekaplpaaGreat

