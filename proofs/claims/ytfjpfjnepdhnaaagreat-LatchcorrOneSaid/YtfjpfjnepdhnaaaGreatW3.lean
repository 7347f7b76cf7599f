/- . -/
import Derived.Test.YtfjpfjnepdhnaaaGreatW2
import Derived.Test.YtfjpfjnepdhnaaaGreatR4
import Derived.Laws.CopyOwn
import Derived.Deep.RegionLaw
namespace Go.Proofs.YtfjpfjnepdhnaaaGreat
open Go Go.RowKit
set_option linter.unusedVariables false
set_option linter.unusedSimpArgs false
theorem O0:Option.map (fun x:TypeInfo=>x.size) (Tryz.prog.info? 3)=some 1:=by kernel_rfl
theorem By(N n m:Nat)(h:n+m<=N)(v z:Value):splice (List.replicate n v++List.replicate (N-n) z) n (List.replicate m v)=List.replicate (n+m) v++List.replicate (N-(n+m)) z:=by
 unfold splice;apply LQ;intro j;simp only[Qk,ey,lE,qz,D5,Ku,Kt,F7]
 (repeat' split)<;>first|rfl|omega
theorem M4{a b:Nat}(h:a<=b):a=Nat.min a b:=(Pk h).symm
theorem ED{w:World}{ops:Array Oper}{rest:List Oper}{o:Oper}{a:Act}{Q:Exit->Act->World->Prop}(hgd:o.guard=none)(d s:Operand)(ho:o.op = .call ⟨.builtin .copy,#[d,s],#[24,24]⟩)(g N X xo xc:Nat)
  (ha:a.eval d = .slice (some ⟨g,0,none⟩) N N) (hs:a.eval s = .slice (some ⟨X,xo,none⟩) 1 xc) (hh:w.heap[g]?=some (.cells (List.replicate N (Value.int .i64 0)).toArray 3 (0,0))) (hc:w.cell? ⟨X,xo,none⟩=some (.int .i64 (-1))) (hN:1<=N) (B:Nat) (w0:World) (hb:Below B w0 w) (hB:B<=g)
  (K:∀w',Hid (w'.heap[g]?=some (.cells (List.replicate 1 (Value.int .i64 (-1))++List.replicate (N-1) (Value.int .i64 0)).toArray 3 (0,0)))->Below B w0 w'->wpList Tryz.prog ops Q rest (a.put o.dst (.int .i64 1)) w'):wpList Tryz.prog ops Q (o::rest) a w:=by
 refine wpList_copy_splice hgd d s 24 24 ho 3 Tryz.underlying24 O0 _ _ N N 1 xc ha hs g 0 _ 3 hh [.int .i64 (-1)] (M4 hN) (fun _=>⟨rfl,_,rfl,fun j v hv=>?_⟩) (by simp;omega) (by intro v hv;simp at hv;subst hv;rfl) B w0 hb hB (fun w' h1 h2=>K w' ?_ h2)
 .cases j with
  |zero=>simp at hv;subst hv;exact hc
  |succ j=>simp at hv
 have:=By N 0 1 (by omega) (.int .i64 (-1)) (.int .i64 0);simp only[List.replicate_zero,Ac,Nat.sub_zero,Dk]at this;rw[<-this];exact h1
theorem Ia{w:World}{ops:Array Oper}{o:Oper}{a:Act}{K:Act->World->Prop}{Q:Exit->Act->World->Prop}{E:Prop}(hgd:o.guard=none)(d s:Operand)(ho:o.op = .call ⟨.builtin .copy,#[d,s],#[24,24]⟩)(g N n m:Nat)
  (ha:a.eval d = .slice (some ⟨g,n,none⟩) (N-n) (N-n)) (hs:a.eval s = .slice (some ⟨g,0,none⟩) n N) (hh:w.heap[g]?=some (.cells (List.replicate n (Value.int .i64 (-1))++List.replicate (N-n) (Value.int .i64 0)).toArray 3 (0,0))) (hm:m=Nat.min n (N-n)) (hn:n<=N) (B:Nat) (w0:World) (hb:Below B w0 w) (hB:B<=g)
  (hK:∀w',Hid (w'.heap[g]?=some (.cells (List.replicate (n+m) (Value.int .i64 (-1))++List.replicate (N-(n+m)) (Value.int .i64 0)).toArray 3 (0,0)))->Below B w0 w'->K (a.put o.dst (.int .i64 (m:Int))) w'):if Region.wanted o (yielded ops a.tmps)=true then Oper.wp Tryz.prog o a w K Q else E:=by
 have hm1:m<=n:=hm▸Nat.min_le_left _ _;have hm2:m<=N-n:=hm▸Rk _ _;refine step_copy_splice hgd d s 24 24 ho 3 Tryz.underlying24 O0 _ _ (N-n) (N-n) n N ha hs g n _ 3 hh (List.replicate m (.int .i64 (-1))) (by simpa using hm) (fun _=>⟨rfl,_,rfl,fun j v hv=>?_⟩) (by simp;omega) (by intro v hv;rw[List.mem_replicate]at hv;rw[hv.2];rfl) B w0 hb hB (fun w' h1 h2=>?_);have hj:j<m:=by simpa using(tR.1 hv).1
 rw[Po hj]at hv;cases hv;have:(⟨g,0,none⟩:Addr).add j=⟨g,j,none⟩:=by simp[Addr.add];exact fun h=>h.symm
 rw[this];simp only[World.cell?,hh];rw[Pl,su (by simp;omega),Po (by omega)];rfl;have hs2:=By N n m (by omega) (.int .i64 (-1)) (.int .i64 0);rw[hs2]at h1;have:=hK w' h1 h2;simp only[qz];exact this
def PI(N:Nat)(w:World)(e:Ending)(w':World):Prop:=
 ∃T,e = .returned (.slice (some ⟨T,0,none⟩) N N)/\w.heap.size<=T/\Below w.heap.size w w'/\w'.heap[T]?=some (.cells (List.replicate N (Value.int .i64 (-1))).toArray 3 (0,0))
set_option maxRecDepth 1000000 in
set_option maxHeartbeats 4000000 in
theorem GD(X xo xc N:Nat)(w:World)(hN:N<=3001)(hN1:1<=N)(hX:w.cell? ⟨X,xo,none⟩=some (.int .i64 (-1)))
  (hM:∀W,Below w.heap.size w W->Calls Tryz.prog 69 #[.int .u64 1,.int .u64 (N:Int)] W fun e w'=>e = .returned (.tuple #[.int .u64 0,.int .u64 (N:Int)])/\Below W.heap.size W w') :
  Calls Tryz.prog 52 #[.slice (some ⟨X,xo,none⟩) 1 xc,.int .i64 (N:Int)] w (PI N w):=by
 have hmk:=Ea N hN;have R0:=hM w (GI _ _);have HX:=Hd.mk hX;have hXl:=JQ _ _ hX;clear hM
 go_enter Tryz.func52,Tryz.ntmps52
 go_wp2_with (first|(go_at_call 69;refine R0.mono ?_;rintro e w1 ⟨rfl,hb⟩;have K1:=Hd.mk hb;have hc1:=(hb.cell (p:=⟨X,xo,none⟩) hXl).trans HX.out;have hsz:=hb.size;clear hb;have hh:(w1.alloc (.cells (Array.replicate N (.int .i64 0)) 3)).heap[w1.heap.size]?=some (.cells (List.replicate N (Value.int .i64 0)).toArray 3 (0,0)):=by { rw[show(w1.alloc (.cells (Array.replicate N (.int .i64 0)) 3)).heap[w1.heap.size]?=some (.cells (Array.replicate N (.int .i64 0)) 3 (0,0)) from F8];simp };have hcx:(w1.alloc (.cells (Array.replicate N (.int .i64 0)) 3)).cell? ⟨X,xo,none⟩=some (.int .i64 (-1)):=(World.cell?_alloc_past _ _ _ (by show X<_;omega)).trans hc1;have HH:=Hd.mk hh;have HCX:=Hd.mk hcx;clear hh hcx hc1;have HB2:=Hd.mk (K1.out.alloc hsz (.cells (Array.replicate N (.int .i64 0)) 3)))|(with_reducible refine ED rfl _ _ rfl w1.heap.size N X xo xc rfl rfl HH.out HCX.out hN1 w.heap.size w HB2.out hsz ?_;intro w2 hw2 hb2;have K2:=Hd.mk hw2.out;have K3:=Hd.mk hb2;clear hw2 hb2))
 generalize w1.heap.size=T at hsz K2 ⊢;clear HH HCX HB2 K1
 go_loopw [8] (fun c wr=>∃n:Nat,1<=n/\n<=N/\c = .int .i64 n/\wr.heap[T]?=some (.cells (List.replicate n (Value.int .i64 (-1))++List.replicate (N-n) (Value.int .i64 0)).toArray 3 (0,0))/\Below w.heap.size w wr) (fun c _=>N-(intOf c).toNat)
 case atStart=>exact⟨1,dD _,hN1,rfl,K2.out,K3.out⟩
 case round=>
  obtain⟨n,hn1,hn2,rfl,hh,hbl⟩:=hrel;by_cases hnN:n<N
  .have hnz:((N:Int)-(n:Int)).toNat=N-n:=by omega
   have hsub:(N:Int)-(n:Int)=((N-n:Nat):Int):=by omega
   obtain⟨m,hm⟩:∃m,m=Nat.min n (N-n):=⟨_,rfl⟩;have hm0:1<=m/\n+m<=N:=by have:=Rk n (N-n);have h2:1<=Nat.min n (N-n):=Nat.le_min.2 ⟨hn1,by omega⟩;have h3:Nat.min n (N-n)<=N-n:=Rk _ _;omega
   obtain⟨hm1,hm2⟩:=hm0;have hww:IntKind.i64.wrap ((n:Int)+(m:Int))=(n:Int)+(m:Int):=by rw[LU];omega
   have hNe:¬N=n:=by omega
   have HM:=Hd.mk hm;have HHH:Hd (wr.drew.heap[T]?=some (.cells (List.replicate n (Value.int .i64 (-1))++List.replicate (N-n) (Value.int .i64 0)).toArray 3 (0,0))):=⟨hh⟩;have HBL:=Hd.mk (hbl.trans (c:=wr.drew) ⟨rfl,rfl,rfl,dD _,fun _ _=>rfl⟩);clear hh hbl hm;go_wp2
   go_region_held3 (fun w'=>True) (exact trivial) ((refine Ia (by rfl) _ _ (by rfl) T N n m (by rfl) (by rfl) HHH.out HM.out hn2 w.heap.size w HBL.out hsz ?_;intro w3 hw3 hb3;have K4:=Hd.mk hw3.out;have K5:=Hd.mk hb3;clear hw3 hb3))
   go_wp2
   all_goals go_roundw
   case rel=>exact⟨n+m,by omega,hm2,by go_num,K4.out,K5.out⟩
   case measure=>simp[intOf];omega
  .have hnE:N=n:=by omega
   subst hnE;have HHH:=Hd.mk hh;have HBL:=Hd.mk hbl;clear hh hbl;go_wp2
   go_ret
   refine⟨T,rfl,hsz,HBL.out,?_⟩;have:=HHH.out;simpa using this
end Go.Proofs.YtfjpfjnepdhnaaaGreat

