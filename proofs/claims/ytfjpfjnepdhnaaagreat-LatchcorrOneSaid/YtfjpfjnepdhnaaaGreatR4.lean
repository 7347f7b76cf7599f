/- . -/
import Derived.Calls
import Derived.KernelRfl
import Derived.Orders
import Derived.Laws.World
import Derived.Laws.Cells
import Derived.Laws.AppendOwn
import Derived.Laws.Entries
import Derived.Laws.StructEq
import Derived.Laws.Slices
import Derived.Laws.MakeOwn
import Derived.Laws.CopyRow
import Derived.ChangeArms
import Derived.DataReads
import Derived.SizedLaws
import Derived.Below
import Derived.Carry
import Derived.Test.YtfjpfjnepdhnaaaGreatR3
namespace Go.Proofs.YtfjpfjnepdhnaaaGreat.R
open Go
set_option linter.unusedVariables false
section
variable {P:Program} {E:Env} {w:World}
def Sa(P:Program)(t:Nat)(τ:Ty):Bool:=pV P 40 t τ
def RU(P:Program)(E:Env)(t:Nat)(x:Nat×List (Nat×Nat)):Bool:=
 match P.underlying t,al E.ty t with
 |some (.struct fields),some τ=>decide (x.2=fields.toList.map fun f=>(f.offset,f.type))&&τ.size==x.1&&xU τ&&sx P 40 fields.toList 0 τ
 |_,_=>false
def R9(P:Program)(t:Nat)(x:Nat×Ty):Bool:=
 match P.underlying t,P.info? t with
 |some (.array m te),some i=>m==x.1&&pV P 40 te x.2&&i.size==x.1*x.2.size&&match i.zero with
  |some (.agg cs)=>od cs.toList (List.replicate x.1 (zeroV x.2)).flatten
  |_=>false
 |_,_=>false
def Jy:Option Value->Bool
 |some z=>z.cells.size==1
 |none=>false
theorem Gd{o:Option Value}(h:Jy o=true):∃z,o=some z/\z.cells.size=1:=by
 cases o with
 |none=>cases h
 |some z=>exact⟨z,rfl,by simpa[Jy]using h⟩
def Re(P:Program)(t:Nat)(_:Unit):Bool:=
 match P.underlying t,P.info? t with
 |some (.func ..),some i=>i.size==1&&Jy i.zero
 |some (.pointer _),some i=>i.size==1&&Jy i.zero
 |_,_=>false
def RV(_ : Nat)(fn : Func): Bool := !(fn.name == "runtime.NumGoroutine")
def RW(P : Program)(t : Nat)(_ : Unit): Bool := !P.stoodInHeld t && !P.eqGuardType P.depth t && (P.fieldsOf t).toList.length == 2 && (P.fieldsOf t).toList.all fun f => f.name != "_"
theorem O3(h1:r8 E.ty (Sa P)=true)(h2:r8 E.fs (RU P E)=true)(h3:r8 E.ar (R9 P)=true)(h4:r8 E.ot (Re P)=true)(h5:r8 E.fn RV=true)(h6:∀x∈E.fn,P.funcs[x.1]?=some x.2)
  (h7:∀x∈E.cl,Enters P x.1/\∀(bad:Nat->Prop) (w:World) (l:List x.2.den) (v:Value),Reads w bad x.2 l v->l.length<=mR ->
   Calls P x.1 #[v] w fun en w'=>∃u bs,en = .returned u/\bM (fun _=>False) w w'/\bs.Nodup/\(∀b∈bs,b<w'.heap.size/\w.heap.size<=b)/\∀bad',(∀b,b<w.heap.size->bad' b->bad b)->qM w' bad' x.2 l u bs)
  (h8:∀x∈E.gr,Enters P x.1/\∀(w:World) (n:Int),0<=n->n<=(mR:Int) ->
   Calls P x.1 #[.slice none 0 0,.int .i64 n] w fun en w'=>∃u bs,en = .returned u/\bM (fun _=>False) w w'/\bs.Nodup/\(∀b∈bs,b<w'.heap.size/\w.heap.size<=b)/\∀bad',qM w' bad' x.2 ([]:List x.2.den) u bs)
  (h9:∀x∈E.so,Enters P x.1/\wJ P x.1 x.2) (h10:∀x∈E.hk,Enters P x.1/\LH P E x.1 x.2) (h11:r8 E.eq (RW P)=true):iw P E where
 env:={
  ty:=fun t τ h=>⟨40,kX h1 h⟩
  fs:=fun t n l h=>by
   have:=kX h2 h;unfold RU at this;split at this
   .rename_i fields τ hu hty;simp only[eJ,Dq,ir]at this;obtain⟨⟨⟨e1,e2⟩,e3⟩,e4⟩:=this;refine⟨fields,τ,hu,e1,hty,e2,?_,FA e4⟩;cases τ with
    |pair a b=>exact⟨a,b,rfl⟩
    |_=>cases e3
   cases this
  ar:=fun t n e h=>by have:=kX h3 h;unfold R9 at this;split at this;rename_i m te i hu hi;simp only[eJ,Dq]at this;obtain⟨⟨⟨e1,e2⟩,e3⟩,e4⟩:=this;subst e1;split at e4;rename_i cs hz;have:=ua e4;exact⟨te,i,hu,⟨40,e2⟩,hi,e3,by rw[hz,<-this]⟩;cases e4;cases this
  fn:=fun f fn h=>by have:=kX h5 h;exact⟨h6 _ (lJ h),by unfold RV at this;simpa using this⟩
  eq:=fun t h=>by obtain⟨u,hu⟩:=Qq.1 h;have:=kX h11 hu;simp only[RW,eJ,Ql,Dq,uQ,bne_iff_ne]at this;exact⟨this.1.1.1,this.1.1.2,this.1.2,this.2⟩ }
 ot:={
  agg:=fun t h w=>by obtain⟨u,hu⟩:=Qq.1 h;have:=kX h4 hu;unfold Re at this;split at this;rename_i h1 _;simp[isAgg,uX h1];rename_i h1 _;simp[isAgg,uX h1];cases this
  size:=fun t h=>by obtain⟨u,hu⟩:=Qq.1 h;have:=kX h4 hu;unfold Re at this;split at this;rename_i i _ h1;rw[eJ]at this;exact⟨i,h1,by simpa using this.1⟩;rename_i i _ h1;rw[eJ]at this;exact⟨i,h1,by simpa using this.1⟩;cases this
  zero:=fun t h=>by obtain⟨u,hu⟩:=Qq.1 h;have:=kX h4 hu;unfold Re at this;split at this;rename_i i _ h1;rw[eJ]at this;obtain⟨z,e1,e2⟩:=Gd this.2;exact⟨i,z,h1,e1,e2⟩;rename_i i _ h1;rw[eJ]at this;obtain⟨z,e1,e2⟩:=Gd this.2;exact⟨i,z,h1,e1,e2⟩;cases this }
 cl:=fun g e h=>h7 _ (lJ h)
 gr:=fun g e h=>h8 _ (lJ h)
 so:=fun g x h=>h9 _ (lJ h)
 hk:=fun g x h=>h10 _ (lJ h)
theorem I5{bad:Nat->Prop}{τ:Ty}{y:τ.den}{v:Value}(h:A8 w bad τ y v):c9 noβ [] w bad (FR τ y) v []:=by
 obtain⟨cs,h1,h2⟩:=h;cases τ with
 |pair a b=>exact⟨cs,h1,jY h2⟩
 |int κ=>exact⟨rfl,cs,h1,h2⟩
 |bool=>exact⟨rfl,cs,h1,h2⟩
 |list e=>exact⟨rfl,cs,h1,h2⟩
theorem rV{τ:Ty}{y:τ.den}{v:Value}{xs:List AV}{vs:List Value}(h:A8 w (fun _=>False) τ y v)(h':Vs (c9 noβ [] w (fun _=>False)) xs vs []):Vs (c9 noβ [] w (fun _=>False)) (FR τ y::xs) (v::vs) []:=by have:=Vs.cons (I5 h) h';simpa using this
theorem Eg(hA:iw P E)(hP:P.follows .mixedOrders=true){g:FuncId}{ms:List Mode}(hsg:al E.sg g=some (ms,[.d .bool]))(hms:ms.all Mode.isRo=true){xs:List AV}{vs:List Value}(hvs:Vs (c9 noβ [] w (fun _=>False)) xs vs [])
  (hD:DF E g xs [.d .bool]=some true):Calls P g vs.toArray w fun e w'=>e = .returned (.bool true)/\Go.RowKit.Below w.heap.size w w':=by
 have key:∀(ios:List Sh),df ms=ios->ios=[]->∃r:eU ([.d .bool]++df ms),DF E g xs ([.d .bool]++df ms)=some r/\(eP [.d .bool] (df ms) r).1=true:=by intro ios h1 h2;subst h2;rw[h1];exact⟨true,hD,rfl⟩
 obtain⟨r,hr,hr1⟩:=key _ rfl (G8 hms);obtain⟨_,hcall⟩:=QY hA hP g ms [.d .bool] hsg xs r hr;refine(hcall (fun _=>False) w vs [] (hvs.imp fun a v b _ h=>h.weaken fun _ _ h=>by rcases h with h|h;exact h;cases h) rN (by simp) (fun _ h=>h.elim)).mono fun e w' h=>?_
 obtain⟨v,rfl,hres⟩:=h;obtain⟨b1,b2,_,_,hv,_⟩:=hres.res;rw[hr1]at hv;have hv':c9 noβ [] w' (fun b=>False\/b∈b1++b2) (.d .bool true) v b1:=hv;obtain⟨rfl,_⟩:=iG hv';exact⟨rfl,nQ hres.same (by simp)⟩
end
end Go.Proofs.YtfjpfjnepdhnaaaGreat.R

