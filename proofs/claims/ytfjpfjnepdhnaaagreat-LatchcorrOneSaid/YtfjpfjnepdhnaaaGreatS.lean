/- . -/
import Derived.Test.YtfjpfjnepdhnaaaGreatR4
import Derived.Sort.EveryDepth
import Derived.Shelf.Sort.AssemblyIn
import Derived.Shelf.Slices.In.SortNone
import Derived.Shelf.Slices.CompactI
import Derived.Shelf.Slices.Delete
import Derived.Shelf.Slices.Empties
import Derived.Shelf.SlSortCmp.WholeK
import Derived.Shelf.SlSortCmp.NoneTotal
import Derived.Below
import Derived.Shelf.SlicesE.IndexFunc
import Derived.Shelf.SlicesQ.IndexFunc
import Derived.Laws.Rows
import Derived.Shelf.Small.Wraps
import Derived.Test.YtfjpfjnepdhnaaaGreatProg
namespace Go.Proofs.YtfjpfjnepdhnaaaGreat.R
open Go Go.Shelf Go.Lib
set_option linter.unusedVariables false
set_option linter.unusedSimpArgs false
section
def gQ(l:Li):Li:=l.mergeSort fun x y=>decide (x<=y)
def DJ(x y:Int×Int):Int:=compareInt y.2 x.2
def uT(x:Int×Int):List Value:=[.int .i64 x.1,.int .i64 x.2]
def ji(l:Lp):Lp:=(Go.Sort.pdq (ltOf DJ) l.toArray 0 l.toArray.size (Lib.bitLen l.toArray.size) true true).toList
theorem Oc(x y:Int×Int):ltOf DJ x y=decide (y.2<x.2):=by unfold ltOf DJ compareInt;by_cases h1:y.2<x.2;simp[h1];by_cases h2:x.2<y.2<;>simp[h1,h2]
theorem OC:Go.Sort.SWO (ltOf DJ) where
 irrefl x:=by rw[Oc];simp
 trans x y z h1 h2:=by rw[Oc]at *;simp at *;omega
 ntrans x y z h1 h2:=by rw[Oc]at *;simp at *;omega
theorem vm(l:Lp):(ji l).Perm l/\(ji l).Pairwise fun x y=>y.2<=x.2:=by
 have h:=Go.Sort.pdq_sorts (ltOf DJ) OC l.toArray 0 l.toArray.size (Lib.bitLen l.toArray.size) true true (Ks _) (dD _) (Or.inl rfl);obtain⟨⟨h1,_,h3⟩,h2⟩:=h;unfold ji;generalize Go.Sort.pdq (ltOf DJ) l.toArray 0 l.toArray.size (Lib.bitLen l.toArray.size) true true=d at h1 h2 h3;constructor;have e1:d.extract 0 l.toArray.size=d:=by rw[<-h1];simp
 rw[e1]at h3;simpa using h3;rw[xd];intro i j hi hj hij;have:=h2 i j (Ks _) hij (by rw[<-h1];simpa using hj);rw[Oc,Dv]at this;have ei:i<d.size:=by simpa using hi
 have ej:j<d.size:=by simpa using hj
 rw[NJ d i ei,NJ d j ej]at this;simpa using this
section
variable {w:World}
theorem E4{o:Nat}{F cells:Array Value}(k:Nat):(Go.Sort.putCells id o F cells)[k]?=(cells[k]?).map fun x=>if o<=k/\k<o+F.size then F[k-o]! else x:=by simp[Go.Sort.putCells]
theorem pW {b o n : Nat} {F cells : Array Value} {elem : TypeId} {os : Array Obj} (hh : w.heap[b]? = some (.cells cells elem (0, 0))) :
    bM (· = b) w (Go.Sort.grow (Go.Sort.putRow id (Go.Sort.ahead w n) b o F) os) ∧ (Go.Sort.grow (Go.Sort.putRow id (Go.Sort.ahead w n) b o F) os).heap[b]? = some (.cells (Go.Sort.putCells id o F cells) elem (0, 0)) := by
  have hlt : b < w.heap.size := by
    rcases iQ b w.heap.size with h | h
    · exact h
    · rw [OU h] at hh; cases hh
  have hget : ∀ k, k < w.heap.size → (Go.Sort.grow (Go.Sort.putRow id (Go.Sort.ahead w n) b o F) os).heap[k]? = if b = k then (w.heap[k]?).map (Go.Sort.onCells (Go.Sort.putCells id o F)) else w.heap[k]? := by intro k hk;simp only [Go.Sort.grow, Go.Sort.putRow, Go.Sort.mapBlock, Go.Sort.ahead];rw [Rq (by simpa using hk), Qo]
  refine ⟨⟨?_, fun k hk hn => ?_, ⟨rfl, rfl, rfl, fun k hk => ?_⟩⟩, ?_⟩
  · simp [Go.Sort.grow, Go.Sort.putRow, Go.Sort.mapBlock, Go.Sort.ahead]
  · rw [hget k hk, ab (fun e => hn e.symm)]
  · rw [hget k hk]
    split
    · rename_i e
      subst e;rw [hh];simp [Go.Sort.onCells, Ce, Go.Sort.putCells]
    · rfl
  · rw [hget b hlt, aa rfl, hh]; rfl
theorem EX {w' : World} {bad' : Nat → Prop} {τ : Ty} {l' : List τ.den} {b o C : Nat} {F cells : Array Value} {elem : TypeId} (hB : C ≤ 9223372036854775807) (hh' : w'.heap[b]? = some (.cells (Go.Sort.putCells id o F cells) elem (0, 0))) (hC : l'.length ≤ C) (hcs : o + C * τ.size ≤ cells.size)
    (hsz : l'.length * τ.size ≤ F.size) (hF : ∀ (i : Nat) (x : τ.den), l'[i]? = some x → ∃ ds, enc w' bad' τ x ds ∧ ∀ (j : Nat) v, ds[j]? = some v → F[i * τ.size + j]! = v) : Row w' bad' τ l' b o C := by
  refine ⟨_, elem, hh', ⟨hC, hB⟩, by simpa [Go.Sort.putCells] using hcs, fun i x hx => ?_⟩;obtain ⟨ds, he, hd⟩ := hF i x hx;refine ⟨ds, he, fun j v hj => ?_⟩;have hjl := fR hj;rw [dK he] at hjl;have hil := fR hx;have h1 : (i + 1) * τ.size ≤ l'.length * τ.size := yk _ (by omega);have h2 : l'.length * τ.size ≤ C * τ.size := yk _ hC;rw [Ad] at h1;have hk : o + i * τ.size + j < cells.size := by omega
  rw [E4, RT hk, OS, aa ⟨by omega, by omega⟩, show o + i * τ.size + j - o = i * τ.size + j from by omega, hd j v hj]
theorem xO {b o : Nat} {d : Array Int} : Go.Sort.putRow (Value.int .i64) w b o d = Go.Sort.putRow id w b o (d.map (Value.int .i64)) := by
  unfold Go.Sort.putRow;congr 1;funext c;apply Rn;intro k;simp only [Go.Sort.putCells, Array.getElem?_mapIdx, Array.size_map];congr 1;funext x;by_cases h : o ≤ k ∧ k < o + d.size
  · rw [aa h, aa h, NJ d (k - o) (by omega), NJ (d.map (Value.int .i64)) (k - o) (by simp; omega)]; simp
  · rw [ab h, ab h]
theorem IM {d : Array Int} {i : Nat} {x : Int} (h : d.toList[i]? = some x) : (d.map (Value.int .i64))[i]! = Value.int .i64 x := by
  have hi : i < d.size := by have := fR h; simpa using this
  rw [NJ (d.map (Value.int .i64)) i (by simpa using hi)];rw [c6 (by simpa using hi)] at h;have := uR h;simp only [Array.getElem_toList] at this;simp [this]
theorem Ax {bad : Nat → Prop} {l : Li} {b o c : Nat} (hR : Row w bad (.int .i64) l b o c) : Go.Sort.Holds (Value.int .i64) w b o l.toArray := by
  obtain ⟨cells, elem, hh, hl, hc, hrd⟩ := hR;intro j hj;have hj' : j < l.length := by simpa using hj
  obtain ⟨ds, he, hd⟩ := hrd j l[j] (c6 hj');simp only [enc] at he;subst he;have h1 := hd 0 _ rfl;simp only [Ty.size, NI, Ds] at h1;refine ⟨?_, by simp [World.frozen?, hh]⟩;rw [cell_of hh, h1, NJ l.toArray j hj]; simp
theorem JD{P:Program}{ρ:Ren}(Ly:Lays.n189 P ρ):wJ P (ρ.f 189) (.inplace (.int .i64) gQ none):=by
 refine⟨fun l=>by simp[gQ],fun w A C=>Any.slices_Sort_int_none Ly A C w,fun bad w l b o c' C hR hne hC hlim=>?_⟩;obtain⟨cells,elem,hh,hl,hc,hrd⟩:=id hR;refine(calls_of_every_depth fun D=>AnyS.slices_Sort_int_in Ly D b o C l w (Ax hR) hR.lt (by unfold mR at hlim;omega)).mono ?_;rintro e w' ⟨rfl,n,os,rfl⟩;rw[xO];obtain⟨h1,h2⟩:=pW (n:=n) (o:=o) (F:=(List.mergeSort l fun x y=>decide (x<=y)).toArray.map (Value.int .i64)) (os:=os) hh;exact⟨rfl,h1,fun bad'=>EX (τ:=.int .i64) (l':=gQ l) hl.2 h2 (by simp[gQ];exact hl.1) hc (by simp[gQ,Ty.size]) fun i x hx=>⟨_,rfl,fun j v hj=>by
  cases j with
  |zero=>simp only[Ip,s8]at hj;subst hj;simp only[Ty.size,NI,Ds];exact IM (by simpa[gQ]using hx)
  |succ j=>simp at hj⟩⟩
theorem sb(l:Li):(compact l).length<=l.length:=by unfold compact compactUpTo;rw[pH];exact kz (Pg _ _) (by simp)
theorem CQ{P:Program}{ρ:Ren}(Ly:Lays2.n20 P ρ):wJ P (ρ.f 20) (.take (.int .i64) compact):=by
 refine⟨rfl,by have:=sb [];exact tS (by simpa using this),fun w A C=>Any.slices_Compact_int_empty Ly A C w,fun bad w l b o c' C hR hne hC hCc hlim=>?_⟩;obtain⟨cells,elem,hh,hl,hc,hrd⟩:=id hR;refine(Any.slices_Compact_int Ly b o C l w (Ax hR) (by unfold mR at hlim;omega) hC).mono ?_;rintro e w' ⟨rfl,n,rfl⟩;rw[xO];obtain⟨h1,h2⟩:=pW (n:=n) (o:=o) (F:=(compact l++List.replicate (l.length-(compact l).length) 0).toArray.map (Value.int .i64)) (os:=#[]) hh;rw[Go.Sort.grow_empty]at h1 h2;have hcl:=sb l;refine⟨rfl,h1,fun bad'=>EX (τ:=.int .i64) (l':=compact l) (by omega) h2 (by show(compact l).length<=C;omega) (by simp only[Ty.size]at hc ⊢;omega) (by simp[Ty.size]) fun i x hx=>⟨_,rfl,fun j v hj=>?_⟩⟩;have hi:=fR hx;cases j with
 |zero=>simp only[Ip,s8]at hj;subst hj;simp only[Ty.size,NI,Ds];exact IM (by show(compact l++_)[i]?=some x;rw[su hi];exact hx)
 |succ j=>simp at hj
theorem M3{P:Program}{ρ:Ren}(Ly:Lays2.n23 P ρ):wJ P (ρ.f 23) (.cut (.int .i64)):=by
 refine⟨rfl,fun w A C=>Any.slices_Delete_int_empty Ly A C w,fun bad w l b o c' C i j hR hne hC hCc hB hlim hij hj=>?_⟩;obtain⟨cells,elem,hh,hl,hc,hrd⟩:=id hR;have hlen:(List.take i l++List.drop j l).length=l.length-(j-i):=by rw[ey,lE,F7];omega
 refine(Any.slices_Delete_int Ly b o C i j l w (Ax hR) hC hB hij hj).mono ?_;rintro e w' ⟨rfl,n,rfl⟩;rw[xO];obtain⟨h1,h2⟩:=pW (n:=n) (o:=o) (F:=(List.take i l++List.drop j l++List.replicate (j-i) 0).toArray.map (Value.int .i64)) (os:=#[]) hh;rw[Go.Sort.grow_empty]at h1 h2;refine⟨by rw[hlen],h1,fun bad'=>EX (τ:=.int .i64) (l':=List.take i l++List.drop j l) hB h2 (by show(List.take i l++List.drop j l).length<=C;omega) (by simp only[Ty.size]at hc ⊢;omega) (by simp[Ty.size]) fun k x hx=>⟨_,rfl,fun m v hm=>?_⟩⟩;have hi:=fR hx;cases m with
 |zero=>simp only[Ip,s8]at hm;subst hm;simp only[Ty.size,NI,Ds];exact IM (by show(List.take i l++List.drop j l++_)[k]?=some x;rw[su hi];exact hx)
 |succ m=>simp at hm
theorem MQ{bad:Nat->Prop}{l:Lp}{b o c:Nat}(hR:Row w bad (.pair (.int .i64) (.int .i64)) l b o c):Go.Sort.HoldsK uT 2 w b o l.toArray:=by
 obtain⟨cells,elem,hh,hl,hc,hrd⟩:=hR;intro t ht;have ht':t<l.length*2:=by simpa using ht
 have hi:t/2<l.length:=by omega
 obtain⟨ds,he,hd⟩:=hrd (t/2) l[t/2] (c6 hi);obtain⟨c1,c2,rfl,h1,h2⟩:=he;simp only[enc]at h1 h2;subst h1;subst h2;refine⟨?_,by simp[World.frozen?,hh]⟩;rw[cell_of hh,Go.Sort.get_flatK uT 2 l.toArray t (by simpa using ht'),NJ l.toArray (t/2) (by simpa using hi)];simp only[Ty.size]at hd;have e:o+t/2*(1+1)+t%2=o+t:=by omega
 rcases Nat.mod_two_eq_zero_or_one t with h0|h0;have:=hd 0 _ rfl;rw[h0]at e;rw[e]at this;rw[this,h0];simp[uT];have:=hd 1 _ rfl;rw[h0]at e;rw[e]at this;rw[this,h0];simp[uT]
theorem DR{P:Program}{ρ:Ren}(Ly:SlLaysF0.n6 P ρ)(aE:∀w,(isAgg (ρ.t 24)).run P w = .ok true w)(zE:∀w,(Go.sizeOf (ρ.t 24)).run P w = .ok 2 w){g:FuncId}(eg:∀args w,(callFunc g args).run P w = .ok (.enter g args) w)
  (hcmp:∀b o s w,CmpLays P g #[] uT 2 DJ b o s w):wJ P (ρ.f 6) (.inplace (.pair (.int .i64) (.int .i64)) ji (some g)):=by
 have hlen:∀l,(ji l).length=l.length:=fun l=>(vm l).1.length_eq;refine⟨hlen,fun w A C=>AnyF.slices_SortFunc_none Ly A C (.func (.func g) #[] #[]) w,fun bad w l b o c' C hR hne hC hlim=>?_⟩;obtain⟨cells,elem,hh,hl,hc,hrd⟩:=id hR;refine(AnyQ.slices_SortFunc_eq Ly 2 aE zE uT (fun _=>rfl) (fun x v hv=>by simp only[uT,eR,Pe,or_false]at hv;rcases hv with rfl|rfl<;>rfl) DJ OC g #[] b o C l.toArray w eg (hcmp _ _ _ _) (MQ hR) hR.lt
  (by unfold mR at hlim;simp;omega)).mono ?_
 rintro e w' ⟨rfl,n,os,rfl⟩;unfold sortWorldK Go.Sort.putRowK;have hd:(ji l).toArray=Go.Sort.pdq (ltOf DJ) l.toArray 0 l.toArray.size (Lib.bitLen l.toArray.size) true true:=by unfold ji;simp
 rw[<-hd];obtain⟨h1,h2⟩:=pW (n:=n) (o:=o) (F:=Go.Sort.flatK uT 2 (ji l).toArray) (os:=os) hh;refine⟨rfl,h1,fun bad'=>EX (τ:=.pair (.int .i64) (.int .i64)) (l':=ji l) hl.2 h2 (by show(ji l).length<=c';rw[hlen];exact hl.1) hc (by simp[Ty.size]) fun i x hx=>⟨[Value.int .i64 x.1,Value.int .i64 x.2],⟨[Value.int .i64 x.1],[Value.int .i64 x.2],rfl,rfl,rfl⟩,fun j v hj=>?_⟩⟩;have hi:=fR hx;have hxx:(ji l)[i]=x:=by rw[c6 hi]at hx;exact uR hx
 simp only[Ty.size];have hj2:j<2:=by have:=fR hj;simpa using this
 rw[Go.Sort.get_flatK uT 2 _ _ (by simp;omega),show(i*(1+1)+j)/2=i from by omega,show(i*(1+1)+j)%2=j from by omega,NJ (ji l).toArray i (by simpa using hi)];simp only[List.getElem_toArray,hxx];rcases iQ j 1 with h0|h0;have:j=0:=by omega
 subst this;simp at hj;simp[uT,hj];have:j=1:=by omega
 subst this;simp at hj;simp[uT,hj]
end
end
end Go.Proofs.YtfjpfjnepdhnaaaGreat.R
namespace Go.Proofs.YtfjpfjnepdhnaaaGreat.R
open Go Go.Shelf Go.RowKit Go.Lib
set_option linter.unusedVariables false
set_option linter.unusedSimpArgs false
section
def EO(i l a:Int):Li:=[1,IntKind.wrap .i64 (1+i),IntKind.wrap .i64 (IntKind.wrap .i64 (1+i)+l),IntKind.wrap .i64 (IntKind.wrap .i64 (IntKind.wrap .i64 (1+i)+l)+a)]
def Bg:List (Nat×Ob)->List AV->Option (Bool×AV)
 |_,[.agg [.d (.int .i64) i,.d (.list (.pair (.int .i64) (.int .i64))) l,.d (.list (.pair (.int .i64) (.int .i64))) a,_,_]]=>some (true,.arr 4 (.int .i64) (EO i (List.length (α:=Int×Int) l:Int) (List.length (α:=Int×Int) a:Int)))
 |_,_=>none
def rO(s:Int)(x:Int):Bool:=decide (x<0)||decide (gT .i64 x 1>=s)
def mS(s:Int)(x:Int×Int):Bool:=rO s x.1||decide (x.2<0)||decide (x.2>2)
def GR(g:FuncId):List (Nat×Ob)->List AV->Option (Bool×AV)
 |ob,[.d (.list (.int .i64)) l,.fn f [.ap key 4]]=>match al ob key with
  |some (.row (.int .i64) [s0,s1,s2,s3])=>bif Nat.beq f g then some (decide (List.length (α:=Int) l<=mR),.d .bool (List.any (α:=Int) l (rO s3))) else none
  |_=>none
 |_,_=>none
def yl(g h:FuncId):List (Nat×Ob)->List AV->Option (Bool×AV)
 |ob,[.d (.list (.pair (.int .i64) (.int .i64))) l,.fn f [.ptr key 0]]=>match al ob key with
  |some (.box [.fn f' [.ap key' 4]])=>match al ob key' with
   |some (.row (.int .i64) [s0,s1,s2,s3])=>bif Nat.beq f h&&Nat.beq f' g then some (decide (List.length (α:=Int×Int) l<=mR),.d .bool (List.any (α:=Int×Int) l (mS s3))) else none
   |_=>none
  |_=>none
 |_,_=>none
section
variable {β:bd} {ob:cW} {w:World} {av:Nat->Prop}
theorem fy{w w':World}(h:Below w.heap.size w w'):bM (fun _=>False) w w':=
 ⟨h.size,fun b hb _=>h.block b hb,⟨h.os,h.tape,h.output,fun b hb=>by rw[h.block b hb]⟩⟩
theorem Vs.cons'{r:AV->Value->Ln->Prop}{a:AV}{xs:List AV}{vs:List Value}{bs:Ln}(h:Vs r (a::xs) vs bs):∃v vs' b bs',vs=v::vs'/\bs=b++bs'/\r a v b/\Vs r xs vs' bs':=by
 cases h with
 |cons h1 h2=>exact⟨_,_,_,_,rfl,rfl,h1,h2⟩
theorem Vs.nil'{r:AV->Value->Ln->Prop}{vs:List Value}{bs:Ln}(h:Vs r [] vs bs):vs=[]/\bs=[]:=by cases h;exact⟨rfl,rfl⟩
theorem F9.cons'{r:AV->Value->Prop}{a:AV}{xs:List AV}{vs:List Value}(h:F9 r (a::xs) vs):∃v vs',vs=v::vs'/\r a v/\F9 r xs vs':=by
 cases h with
 |cons h1 h2=>exact⟨_,_,rfl,h1,h2⟩
theorem F9.nil'{r:AV->Value->Prop}{vs:List Value}(h:F9 r [] vs):vs=[]:=by cases h;rfl
theorem tw{bad:Nat->Prop}{e:Ty}{l:List e.den}{v:Value}{bs:Ln}(h:eO β ob w bad (.d (.list e) l) v bs):
  ∃A c,v = .slice A (List.length l) c/\(A=none->l=[])/\∀a,A=some a->∀(i:Nat) (x:e.den),l[i]?=some x->a.spot=none/\∃ds,enc w bad e x ds/\At w a.block (a.off+i*e.size) ds:=by
 obtain⟨_,cs,hv,A,c,rfl,h2,h3,h4⟩:=h;simp only[kj,Im,Ko]at hv;exact⟨A,c,hv.symm,fun hA=>tS (by have:=h3 hA;omega),fun a ha i x hx=>by obtain⟨q1,q2,q3⟩:=h4 a ha i x hx;exact⟨q1,q3⟩⟩
theorem Dp{P:Program}{fn:Func}{tmps:Array Value}{a:Tmp}{t:TypeId}(h:fn.results = #[.cell a t]){p:Addr}{v:Value}(hp:tmps.getD a undef = .pointer (some p))(hl:(loadVar t p).run P w = .ok v w):(results fn tmps).run P w = .ok v w:=by rw[Pn]at hp;simp[results,h,hp,hl,asAddr]
theorem He(w:World)(o o':Obj):((w.alloc o).alloc o').heap[w.heap.size+1]?=some o':=by show((w.heap.push o).push o')[w.heap.size+1]?=some o';rw[show w.heap.size+1=(w.heap.push o).size from by simp];exact F8
theorem Oa(s x:Int):rO s x=(decide (x<0)||decide (s<=x/2)):=by unfold rO gT;rw[show min (Int.toNat 1) IntKind.i64.bits=1 from rfl,Ph _ (by decide)];rfl
theorem Gn{i:Int}{l a:Lp}{p q:AV}{us:List Value}(h:F9 (fun v u=>c9 β ob w av v u []) [.agg [.d (.int .i64) i,.d (.list (.pair (.int .i64) (.int .i64))) l,.d (.list (.pair (.int .i64) (.int .i64))) a,p,q]] us):
  ∃A1 c1 A2 c2 x y,us=[.agg #[.int .i64 i,.slice A1 l.length c1,.slice A2 a.length c2,x,y]]:=by
 obtain⟨u,us',rfl,h1,h2⟩:=h.cons';rw[h2.nil'];obtain⟨vs,rfl,h1⟩:=h1;obtain⟨v1,vs1,b1,bs1,rfl,hb1,g1,h1⟩:=h1.cons';obtain⟨v2,vs2,b2,bs2,rfl,hb2,g2,h1⟩:=h1.cons';obtain⟨v3,vs3,b3,bs3,rfl,hb3,g3,h1⟩:=h1.cons';obtain⟨v4,vs4,b4,bs4,rfl,hb4,g4,h1⟩:=h1.cons';obtain⟨v5,vs5,b5,bs5,rfl,hb5,g5,h1⟩:=h1.cons';obtain⟨rfl,_⟩:=h1.nil';obtain⟨rfl,-⟩:=cP (β:=β) (ob:=ob) (w:=w) (show c9 β ob w av (.d (.int .i64) i) v1 b1 from g1);obtain⟨A1,c1,rfl,_⟩:=tw g2;obtain⟨A2,c2,rfl,_⟩:=tw g3;exact⟨A1,c1,A2,c2,v4,v5,rfl⟩
theorem Ib(i l a:Int)(bad:Nat->Prop):c9 β ob w bad (.arr 4 (.int .i64) (EO i l a)) (.agg #[.int .i64 1,.int .i64 (IntKind.wrap .i64 (1+i)),.int .i64 (IntKind.wrap .i64 (IntKind.wrap .i64 (1+i)+l)),.int .i64 (IntKind.wrap .i64 (IntKind.wrap .i64 (IntKind.wrap .i64 (1+i)+l)+a))]) []:=by
 refine⟨rfl,rfl,[[.int .i64 1],[.int .i64 (IntKind.wrap .i64 (1+i))],[.int .i64 (IntKind.wrap .i64 (IntKind.wrap .i64 (1+i)+l))],[.int .i64 (IntKind.wrap .i64 (IntKind.wrap .i64 (IntKind.wrap .i64 (1+i)+l)+a))]],rfl,rfl,fun k x hx=>?_⟩
 match k,hx with
 |0,hx=>cases hx;exact⟨_,rfl,rfl⟩
 |1,hx=>cases hx;exact⟨_,rfl,rfl⟩
 |2,hx=>cases hx;exact⟨_,rfl,rfl⟩
 |3,hx=>cases hx;exact⟨_,rfl,rfl⟩
 |k+4,hx=>simp[EO]at hx
theorem Hz{b0:Nat->Prop}(hO:rM b0 β ob w av){key:Nat}{s0 s1 s2 s3:Int}(hk:al ob key=some (.row (.int .i64) [s0,s1,s2,s3])){u:Value}{bs:Ln}(h:eO β ob w av (.ap key 4) u bs):
  ∃b,u = .pointer (some ⟨b,0,none⟩)/\b<w.heap.size/\w.cell? ⟨b,3,none⟩=some (.int .i64 s3):=by
 obtain⟨_,τ,l,b,c,h1,h2,h3,rfl⟩:=h;rw[hk]at h1;cases h1;rcases hO.row key _ _ hk with⟨hn,_⟩|⟨b',o,c',hb',hR⟩;rw[hn]at h3;cases h3;rw[hb']at h3;cases h3;refine⟨b,rfl,hR.lt,?_⟩;obtain⟨cells,elem,hh,_,_,hr⟩:=hR;obtain⟨ds,he,hd⟩:=hr 3 s3 rfl;simp only[enc]at he;subst he;have:=hd 0 _ rfl;rw[cell_of hh];simpa[Ty.size]using this
theorem HF{α:Type}(l:List α)(p:α->Bool):(l.take l.length).any p=l.any p:=by rw[xM]
theorem yO{b:Bool}(bad:Nat->Prop):c9 β ob w bad (.d .bool b) (.bool b) []:=p8 b
end
def O5(P:Program)(g:FuncId):Prop:=∀(B:Nat) (s:Int) (w:World),B<w.heap.size->w.cell? ⟨B,3,none⟩=some (.int .i64 s)->PredAt P g #[.pointer (some ⟨B,0,none⟩)] (Value.int .i64) (rO s) w
def Px(x:Int×Int):List Value:=[.int .i64 x.1,.int .i64 x.2]
def J9(P:Program)(g h:FuncId):Prop:=∀(B C:Nat) (s:Int) (w:World),B<w.heap.size->C<w.heap.size->w.cell? ⟨C,0,none⟩=some (.func (.func g) #[] #[.pointer (some ⟨B,0,none⟩)])->w.cell? ⟨B,3,none⟩=some (.int .i64 s) ->
 PredBelow P h #[.pointer (some ⟨C,0,none⟩)] (fun x=>.agg (Px x).toArray) (mS s) w
theorem N9{P:Program}{ρ:Ren}(Ly:SlLaysH.n8 P ρ){g:FuncId}(eg:∀args w,(callFunc g args).run P w = .ok (.enter g args) w)(hg:O5 P g):wJ P (ρ.f 8) (.calc (GR g)):=by
 intro b0 β ob w av hO hlt xs us r hxs hf;unfold GR at hf;split at hf
 .rename_i l f key;split at hf
  .rename_i s0 s1 s2 s3 hk;cases hfg:Nat.beq f g with
   |false=>rw[hfg]at hf;cases hf
   |true=>
    rw[hfg,pD]at hf;injection hf with hf;injection hf with hlim hf;subst hf;have hlim:=uW hlim;obtain rfl:f=g:=xN hfg;obtain⟨u1,us1,rfl,h1,h2⟩:=hxs.cons';obtain⟨u2,us2,rfl,h2,h3⟩:=h2.cons';rw[h3.nil'];obtain⟨A,c,rfl,hA,hrow⟩:=tw (β:=β) (ob:=ob) (show eO β ob w av (.d (.list (.int .i64)) l) u1 [] from h1);obtain⟨_,vs,rfl,hcap⟩:=h2;obtain⟨v,vs',b,bs',rfl,_,hv,hn⟩:=hcap.cons';obtain⟨rfl,_⟩:=hn.nil';obtain⟨B,rfl,hB,hcell⟩:=Hz hO hk hv;by_cases hl:l=[];subst hl;refine(AnyE.slices_ContainsFunc_empty Ly A c _ w).mono ?_;rintro e w' ⟨rfl,rfl⟩;exact⟨_,rfl,bM.refl _ _,fun bad'=>yO bad'⟩;obtain⟨a,rfl⟩:∃a,A=some a:=by
     cases A with
     |none=>exact absurd (hA rfl) hl
     |some a=>exact⟨a,rfl⟩
    have hpos:0<List.length (α:=Int) l:=Mt.2 hl;obtain⟨hsp,_⟩:=hrow a rfl 0 _ (c6 hpos);obtain⟨blk,off,spot⟩:=a;cases hsp;have hcon:=AnyE.slices_ContainsFunc Ly (Value.int .i64) (rO s3) f #[.pointer (some ⟨B,0,none⟩)] eg blk off (List.length (α:=Int) l) c l w (hg B s3 w hB hcell) (dD _) (by unfold mR at hlim;omega) (fun j hj=>by obtain⟨_,ds,he,hat⟩:=hrow _ rfl j l[j] (c6 hj);simp only[enc]at he;subst he;have:=hat 0 _ rfl;rw[NJ l j hj];simpa[Ty.size]using this)
    rw[HF]at hcon;refine hcon.mono ?_;rintro e w' ⟨rfl,q,rfl⟩;exact⟨_,rfl,fy (below_drewN' (GI _ w) q),fun bad'=>yO bad'⟩
  cases hf
 cases hf
set_option maxHeartbeats 1000000 in
theorem DB{P:Program}{ρ:Ren}(L:SlLaysH0.n6 P ρ)(A:Option Addr)(c:Nat)(f:Value)(w:World):Calls P (ρ.f 6) #[.slice A 0 c,f] w fun e w'=>e = .returned (.int .i64 (-1))/\w'=w:=by
 obtain⟨_,_,FG⟩:=L.f6;have h1:=L.mixed;have h2:=L.t0;have h3:=L.t3;have h4:=L.t4;have h5:=L.t22;have h6:=L.t25;have g1:=L.a0;have g2:=L.a3;have g3:=L.a4;have g4:=L.a22;have g5:=L.a25;have k1:=L.z0;have k2:=L.z3;have k3:=L.z4;have k4:=L.z22;have k5:=L.z25;have m1:=L.v0;have m2:=L.v3;have m3:=L.v4;have m4:=L.v22;have m5:=L.v25
 go_enter FG,SlBodyH.n6_ntmps ρ
 go_wp2
 go_loopg [5,8] 0 (fun _ _ x W=>x = .int .i64 0/\W=w)
 case atStart=>exact⟨rfl,rfl⟩
 case round=>
  obtain⟨rfl,rfl⟩:=hrel;go_wp2
  go_ret
  exact⟨rfl,rfl⟩
theorem AE{P:Program}{ρ:Ren}(L:SlLaysH0.n8 P ρ)(A:Option Addr)(c:Nat)(f:Value)(w:World):Calls P (ρ.f 8) #[.slice A 0 c,f] w fun e w'=>e = .returned (.bool false)/\w'=w:=by
 have h0:∀args w,(callFunc (ρ.f 6) args).run P w = .ok (.enter (ρ.f 6) args) w:=L.f6.enters rfl;obtain⟨_,_,FG⟩:=L.f8;have h1:=L.mixed;have h2:=L.t0;have h3:=L.t3;have h4:=L.t4;have h5:=L.t22;have h6:=L.t25;have g1:=L.a0;have g2:=L.a3;have g3:=L.a4;have g4:=L.a22;have g5:=L.a25;have k1:=L.z0;have k2:=L.z3;have k3:=L.z4;have k4:=L.z22;have k5:=L.z25;have m1:=L.v0;have m2:=L.v3;have m3:=L.v4;have m4:=L.v22;have m5:=L.v25
 go_enter FG,SlBodyH.n8_ntmps ρ
 go_wp2_with (go_at_fn (ρ.f 6);refine(DB { L with } A c f _).mono ?_;rintro e w' ⟨rfl,rfl⟩)
 go_ret
 exact⟨rfl,rfl⟩
theorem Ke{P:Program}{ρ:Ren}(Ly:SlLaysH0.n8 P ρ)(aE:∀w,(isAgg (ρ.t 23)).run P w = .ok true w)(zE:∀w,(Go.sizeOf (ρ.t 23)).run P w = .ok 2 w){g h:FuncId}(eh:∀args w,(callFunc h args).run P w = .ok (.enter h args) w)
  (hg:J9 P g h):wJ P (ρ.f 8) (.calc (yl g h)):=by
 intro b0 β ob w av hO hlt xs us r hxs hf;unfold yl at hf;split at hf
 .rename_i l f key;split at hf
  .rename_i f' key' hbox;split at hf
   .rename_i s0 s1 s2 s3 hk;cases hfg:Nat.beq f h&&Nat.beq f' g with
    |false=>rw[hfg]at hf;cases hf
    |true=>
     rw[hfg,pD]at hf;injection hf with hf;injection hf with hlim hf;subst hf;have hlim:=uW hlim;rw[eJ]at hfg;obtain rfl:f=h:=xN hfg.1;obtain rfl:f'=g:=xN hfg.2;obtain⟨u1,us1,rfl,h1,h2⟩:=hxs.cons';obtain⟨u2,us2,rfl,h2,h3⟩:=h2.cons';rw[h3.nil'];obtain⟨A,c,rfl,hA,hrow⟩:=tw (β:=β) (ob:=ob) (show eO β ob w av (.d (.list (.pair (.int .i64) (.int .i64))) l) u1 [] from h1);obtain⟨_,vs,rfl,hcap⟩:=h2;obtain⟨v,vs',b,bs',rfl,_,hv,hn⟩:=hcap.cons';obtain⟨rfl,_⟩:=hn.nil';obtain⟨_,C,c0,cs,hC,hcs,rfl⟩:=hv;rw[hbox]at hcs;cases hcs;obtain⟨C',cells,elem,hC',hh,hcv⟩:=hO.box key _ hbox;rw[hC']at hC;cases hC;obtain⟨v1,r1,b1,bs1,hcl,_,hv1,hn1⟩:=hcv.cons';obtain⟨rfl,_⟩:=hn1.nil';obtain⟨_,vs2,rfl,hcap2⟩:=hv1;obtain⟨v2,r2,b2,bs2,rfl,_,hv2,hn2⟩:=hcap2.cons';obtain⟨rfl,_⟩:=hn2.nil';obtain⟨B,rfl,hB,hcell⟩:=Hz hO hk hv2;have hCl:C<w.heap.size:=by rcases iQ C w.heap.size with h|h;exact h;rw[OU h]at hh;cases hh
     have hcc:w.cell? ⟨C,0,none⟩=some (.func (.func f') #[] #[.pointer (some ⟨B,0,none⟩)]):=by rw[cell_of hh,<-Array.getElem?_toList,hcl];rfl
     by_cases hl:l=[];subst hl;refine(AE Ly A c _ w).mono ?_;rintro e w' ⟨rfl,rfl⟩;exact⟨_,rfl,bM.refl _ _,fun bad'=>yO bad'⟩;obtain⟨a,rfl⟩:∃a,A=some a:=by
      cases A with
      |none=>exact absurd (hA rfl) hl
      |some a=>exact⟨a,rfl⟩
     have hpos:0<List.length (α:=Int×Int) l:=Mt.2 hl;have hat:∀j (hj:j<List.length (α:=Int×Int) l),a.spot=none/\∀(i:Nat) v,(Px (l[j]'hj))[i]?=some v->w.cell? ⟨a.block,a.off+j*2+i,none⟩=some v:=fun j hj=>by obtain⟨q1,ds,he,q2⟩:=hrow a rfl j _ (c6 hj);obtain⟨d1,d2,rfl,he1,he2⟩:=he;simp only[enc]at he1 he2;subst he1;subst he2;exact⟨q1,fun i v hi=>q2 i v hi⟩
     obtain⟨blk,off,spot⟩:=a;have hsp:=(hat 0 hpos).1;cases hsp;have hbl:blk<w.heap.size:=by have:=(hat 0 hpos).2 0 _ rfl;exact JQ _ _ this
     have hcon:=AnyQ.slices_ContainsFunc Ly 2 aE zE Px (fun _=>rfl) (mS s3) f #[.pointer (some ⟨C,0,none⟩)] eh blk off (List.length (α:=Int×Int) l) c l w (hg B C s3 w hB hCl hcc hcell) (dD _) (by unfold mR at hlim;omega) hbl (fun j hj i v hi=>by rw[NJ l j hj]at hi;exact(hat j hj).2 i v hi)
     rw[HF]at hcon;refine hcon.mono ?_;rintro e w' ⟨rfl,hb⟩;exact⟨_,rfl,fy hb,fun bad'=>yO bad'⟩
   cases hf
  cases hf
 cases hf
end
end Go.Proofs.YtfjpfjnepdhnaaaGreat.R
namespace Go.Proofs
open Go.Shelf
set_option linter.unusedVariables false
set_option linter.unusedSimpArgs false
section
def YtfjpfjnepdhnaaaGreat.laySort_ren:Go.Shelf.Ren:=⟨fun|189=>98|125=>110|257=>109|128=>135|129=>136|294=>126|295=>127|296=>128|297=>129|298=>130|299=>131|216=>132|300=>133|301=>134|328=>144|329=>145|330=>146|331=>147|332=>148|215=>149|343=>153|n=>n,fun|28=>24|3=>3|46=>97|0=>0|51=>127|53=>130|4=>4|183=>194|182=>193|131=>134|5=>5|9=>9|218=>207|222=>211|228=>215|229=>161|n=>n,fun|n=>n⟩
theorem YtfjpfjnepdhnaaaGreat.laySort:Go.Proofs.Lays.n189 Tryz.prog YtfjpfjnepdhnaaaGreat.laySort_ren:={
 mixed:=by kernel_rfl
 f125:=Tryz.func110.trans (mM some (by kernel_rfl))
 f128:=Tryz.func135.trans (mM some (by kernel_rfl))
 f129:=Tryz.func136.trans (mM some (by kernel_rfl))
 f189:=Tryz.func98.trans (mM some (by kernel_rfl))
 f215:=Tryz.func149.trans (mM some (by kernel_rfl))
 f216:=Tryz.func132.trans (mM some (by kernel_rfl))
 f257:=Tryz.func109.trans (mM some (by kernel_rfl))
 f294:=Tryz.func126.trans (mM some (by kernel_rfl))
 f295:=Tryz.func127.trans (mM some (by kernel_rfl))
 f296:=Tryz.func128.trans (mM some (by kernel_rfl))
 f297:=Tryz.func129.trans (mM some (by kernel_rfl))
 f298:=Tryz.func130.trans (mM some (by kernel_rfl))
 f299:=Tryz.func131.trans (mM some (by kernel_rfl))
 f300:=Tryz.func133.trans (mM some (by kernel_rfl))
 f301:=Tryz.func134.trans (mM some (by kernel_rfl))
 f328:=Tryz.func144.trans (mM some (by kernel_rfl))
 f329:=Tryz.func145.trans (mM some (by kernel_rfl))
 f330:=Tryz.func146.trans (mM some (by kernel_rfl))
 f331:=Tryz.func147.trans (mM some (by kernel_rfl))
 f332:=Tryz.func148.trans (mM some (by kernel_rfl))
 f343:=Tryz.func153.trans (mM some (by kernel_rfl))
 t0:=Tryz.underlying0
 a0:=Tryz.isAgg0
 z0:=Tryz.sizeOf0
 v0:=Tryz.zeroValue0
 t3:=Tryz.underlying3
 a3:=Tryz.isAgg3
 z3:=Tryz.sizeOf3
 v3:=Tryz.zeroValue3
 t4:=Tryz.underlying4
 a4:=Tryz.isAgg4
 z4:=Tryz.sizeOf4
 v4:=Tryz.zeroValue4
 t5:=Tryz.underlying5
 a5:=Tryz.isAgg5
 z5:=Tryz.sizeOf5
 v5:=Tryz.zeroValue5
 t9:=Tryz.underlying9
 a9:=Tryz.isAgg9
 z9:=Tryz.sizeOf9
 v9:=Tryz.zeroValue9
 t28:=Tryz.underlying24
 a28:=Tryz.isAgg24
 z28:=Tryz.sizeOf24
 v28:=Tryz.zeroValue24
 t46:=Tryz.underlying97
 a46:=Tryz.isAgg97
 z46:=Tryz.sizeOf97
 v46:=Tryz.zeroValue97
 t51:=Tryz.underlying127
 a51:=Tryz.isAgg127
 z51:=Tryz.sizeOf127
 v51:=Tryz.zeroValue127
 t53:=Tryz.underlying130
 a53:=Tryz.isAgg130
 z53:=Tryz.sizeOf130
 v53:=Tryz.zeroValue130
 t131:=Tryz.underlying134
 a131:=Tryz.isAgg134
 z131:=Tryz.sizeOf134
 v131:=Tryz.zeroValue134
 t182:=Tryz.underlying193
 a182:=Tryz.isAgg193
 z182:=Tryz.sizeOf193
 v182:=Tryz.zeroValue193
 t183:=Tryz.underlying194
 a183:=Tryz.isAgg194
 z183:=Tryz.sizeOf194
 v183:=Tryz.zeroValue194
 t218:=Tryz.underlying207
 a218:=Tryz.isAgg207
 z218:=Tryz.sizeOf207
 v218:=Tryz.zeroValue207
 t222:=Tryz.underlying211
 a222:=Tryz.isAgg211
 z222:=Tryz.sizeOf211
 v222:=Tryz.zeroValue211
 t228:=Tryz.underlying215
 a228:=Tryz.isAgg215
 z228:=Tryz.sizeOf215
 v228:=Tryz.zeroValue215
 t229:=Tryz.underlying161
 a229:=Tryz.isAgg161
 z229:=Tryz.sizeOf161
 v229:=Tryz.zeroValue161 }
def YtfjpfjnepdhnaaaGreat.layCompact_ren:Go.Shelf.Ren:=⟨fun|20=>99|n=>n,fun|22=>24|3=>3|4=>4|0=>0|n=>n,fun|n=>n⟩
theorem YtfjpfjnepdhnaaaGreat.layCompact:Go.Proofs.Lays2.n20 Tryz.prog YtfjpfjnepdhnaaaGreat.layCompact_ren:={
 mixed:=by kernel_rfl
 f20:=Tryz.func99.trans (mM some (by kernel_rfl))
 t0:=Tryz.underlying0
 a0:=Tryz.isAgg0
 z0:=Tryz.sizeOf0
 v0:=Tryz.zeroValue0
 t3:=Tryz.underlying3
 a3:=Tryz.isAgg3
 z3:=Tryz.sizeOf3
 v3:=Tryz.zeroValue3
 t4:=Tryz.underlying4
 a4:=Tryz.isAgg4
 z4:=Tryz.sizeOf4
 v4:=Tryz.zeroValue4
 t22:=Tryz.underlying24
 a22:=Tryz.isAgg24
 z22:=Tryz.sizeOf24
 v22:=Tryz.zeroValue24
 i3:=by kernel_rfl }
def YtfjpfjnepdhnaaaGreat.layDelete_ren:Go.Shelf.Ren:=⟨fun|23=>95|n=>n,fun|22=>24|3=>3|4=>4|0=>0|n=>n,fun|n=>n⟩
theorem YtfjpfjnepdhnaaaGreat.layDelete:Go.Proofs.Lays2.n23 Tryz.prog YtfjpfjnepdhnaaaGreat.layDelete_ren:={
 mixed:=by kernel_rfl
 f23:=Tryz.func95.trans (mM some (by kernel_rfl))
 t0:=Tryz.underlying0
 a0:=Tryz.isAgg0
 z0:=Tryz.sizeOf0
 v0:=Tryz.zeroValue0
 t3:=Tryz.underlying3
 a3:=Tryz.isAgg3
 z3:=Tryz.sizeOf3
 v3:=Tryz.zeroValue3
 t4:=Tryz.underlying4
 a4:=Tryz.isAgg4
 z4:=Tryz.sizeOf4
 v4:=Tryz.zeroValue4
 t22:=Tryz.underlying24
 a22:=Tryz.isAgg24
 z22:=Tryz.sizeOf24
 v22:=Tryz.zeroValue24
 i3:=by kernel_rfl }
def YtfjpfjnepdhnaaaGreat.layCompare_ren:Go.Shelf.Ren:=⟨fun|122=>140|215=>149|n=>n,fun|3=>3|4=>4|n=>n,fun|n=>n⟩
theorem YtfjpfjnepdhnaaaGreat.layCompare:Go.Proofs.Lays.n122 Tryz.prog YtfjpfjnepdhnaaaGreat.layCompare_ren:={
 mixed:=by kernel_rfl
 f122:=Tryz.func140.trans (mM some (by kernel_rfl))
 f215:=Tryz.func149.trans (mM some (by kernel_rfl))
 t3:=Tryz.underlying3
 a3:=Tryz.isAgg3
 z3:=Tryz.sizeOf3
 v3:=Tryz.zeroValue3
 t4:=Tryz.underlying4
 a4:=Tryz.isAgg4
 z4:=Tryz.sizeOf4
 v4:=Tryz.zeroValue4 }
def YtfjpfjnepdhnaaaGreat.laySortBy_ren:Go.Shelf.Ren:=⟨fun|6=>141|15=>110|14=>152|28=>135|29=>136|20=>155|21=>156|22=>157|23=>158|24=>159|25=>160|26=>161|27=>162|46=>163|47=>145|48=>146|49=>164|50=>165|57=>166|n=>n,fun|22=>177|24=>181|25=>204|3=>3|39=>97|0=>0|53=>127|55=>130|4=>4|46=>194|45=>193|50=>134|5=>5|9=>9|66=>207|70=>211|76=>215|77=>161|n=>n,fun|n=>n⟩
theorem YtfjpfjnepdhnaaaGreat.laySortBy:Go.Proofs.SlLaysF0.n6 Tryz.prog YtfjpfjnepdhnaaaGreat.laySortBy_ren:={
 mixed:=by kernel_rfl
 f6:=⟨Tryz.f141.name,by decide,Tryz.func141.trans (mM some (by kernel_rfl))⟩
 f14:=⟨Tryz.f152.name,by decide,Tryz.func152.trans (mM some (by kernel_rfl))⟩
 f15:=Tryz.func110.trans (mM some (by kernel_rfl))
 f20:=⟨Tryz.f155.name,by decide,Tryz.func155.trans (mM some (by kernel_rfl))⟩
 f21:=⟨Tryz.f156.name,by decide,Tryz.func156.trans (mM some (by kernel_rfl))⟩
 f22:=⟨Tryz.f157.name,by decide,Tryz.func157.trans (mM some (by kernel_rfl))⟩
 f23:=⟨Tryz.f158.name,by decide,Tryz.func158.trans (mM some (by kernel_rfl))⟩
 f24:=⟨Tryz.f159.name,by decide,Tryz.func159.trans (mM some (by kernel_rfl))⟩
 f25:=⟨Tryz.f160.name,by decide,Tryz.func160.trans (mM some (by kernel_rfl))⟩
 f26:=⟨Tryz.f161.name,by decide,Tryz.func161.trans (mM some (by kernel_rfl))⟩
 f27:=⟨Tryz.f162.name,by decide,Tryz.func162.trans (mM some (by kernel_rfl))⟩
 f28:=Tryz.func135.trans (mM some (by kernel_rfl))
 f29:=Tryz.func136.trans (mM some (by kernel_rfl))
 f46:=⟨Tryz.f163.name,by decide,Tryz.func163.trans (mM some (by kernel_rfl))⟩
 f47:=Tryz.func145.trans (mM some (by kernel_rfl))
 f48:=Tryz.func146.trans (mM some (by kernel_rfl))
 f49:=⟨Tryz.f164.name,by decide,Tryz.func164.trans (mM some (by kernel_rfl))⟩
 f50:=⟨Tryz.f165.name,by decide,Tryz.func165.trans (mM some (by kernel_rfl))⟩
 f57:=⟨Tryz.f166.name,by decide,Tryz.func166.trans (mM some (by kernel_rfl))⟩
 t0:=Tryz.underlying0
 a0:=Tryz.isAgg0
 z0:=Tryz.sizeOf0
 v0:=Tryz.zeroValue0
 t3:=Tryz.underlying3
 a3:=Tryz.isAgg3
 z3:=Tryz.sizeOf3
 v3:=Tryz.zeroValue3
 t4:=Tryz.underlying4
 a4:=Tryz.isAgg4
 z4:=Tryz.sizeOf4
 v4:=Tryz.zeroValue4
 t5:=Tryz.underlying5
 a5:=Tryz.isAgg5
 z5:=Tryz.sizeOf5
 v5:=Tryz.zeroValue5
 t9:=Tryz.underlying9
 a9:=Tryz.isAgg9
 z9:=Tryz.sizeOf9
 v9:=Tryz.zeroValue9
 t22:=Tryz.underlying177
 a22:=Tryz.isAgg177
 z22:=Tryz.sizeOf177
 v22:=Tryz.zeroValue177
 t25:=Tryz.underlying204
 a25:=Tryz.isAgg204
 z25:=Tryz.sizeOf204
 v25:=Tryz.zeroValue204
 t39:=Tryz.underlying97
 a39:=Tryz.isAgg97
 z39:=Tryz.sizeOf97
 v39:=Tryz.zeroValue97
 t45:=Tryz.underlying193
 a45:=Tryz.isAgg193
 z45:=Tryz.sizeOf193
 v45:=Tryz.zeroValue193
 t46:=Tryz.underlying194
 a46:=Tryz.isAgg194
 z46:=Tryz.sizeOf194
 v46:=Tryz.zeroValue194
 t50:=Tryz.underlying134
 a50:=Tryz.isAgg134
 z50:=Tryz.sizeOf134
 v50:=Tryz.zeroValue134
 t53:=Tryz.underlying127
 a53:=Tryz.isAgg127
 z53:=Tryz.sizeOf127
 v53:=Tryz.zeroValue127
 t55:=Tryz.underlying130
 a55:=Tryz.isAgg130
 z55:=Tryz.sizeOf130
 v55:=Tryz.zeroValue130
 t66:=Tryz.underlying207
 a66:=Tryz.isAgg207
 z66:=Tryz.sizeOf207
 v66:=Tryz.zeroValue207
 t70:=Tryz.underlying211
 a70:=Tryz.isAgg211
 z70:=Tryz.sizeOf211
 v70:=Tryz.zeroValue211
 t76:=Tryz.underlying215
 a76:=Tryz.isAgg215
 z76:=Tryz.sizeOf215
 v76:=Tryz.zeroValue215
 t77:=Tryz.underlying161
 a77:=Tryz.isAgg161
 z77:=Tryz.sizeOf161
 v77:=Tryz.zeroValue161 }
def YtfjpfjnepdhnaaaGreat.layContains_ren:Go.Shelf.Ren:=⟨fun|8=>59|6=>73|n=>n,fun|22=>24|23=>3|25=>29|4=>4|3=>3|0=>0|n=>n,fun|n=>n⟩
theorem YtfjpfjnepdhnaaaGreat.layContains:Go.Proofs.SlLaysH.n8 Tryz.prog YtfjpfjnepdhnaaaGreat.layContains_ren:={
 mixed:=by kernel_rfl
 f6:=⟨Tryz.f73.name,by decide,Tryz.func73.trans (mM some (by kernel_rfl))⟩
 f8:=⟨Tryz.f59.name,by decide,Tryz.func59.trans (mM some (by kernel_rfl))⟩
 t0:=Tryz.underlying0
 a0:=Tryz.isAgg0
 z0:=Tryz.sizeOf0
 v0:=Tryz.zeroValue0
 t3:=Tryz.underlying3
 a3:=Tryz.isAgg3
 z3:=Tryz.sizeOf3
 v3:=Tryz.zeroValue3
 t4:=Tryz.underlying4
 a4:=Tryz.isAgg4
 z4:=Tryz.sizeOf4
 v4:=Tryz.zeroValue4
 t22:=Tryz.underlying24
 a22:=Tryz.isAgg24
 z22:=Tryz.sizeOf24
 v22:=Tryz.zeroValue24
 a23:=Tryz.isAgg3
 z23:=Tryz.sizeOf3
 t25:=Tryz.underlying29
 a25:=Tryz.isAgg29
 z25:=Tryz.sizeOf29
 v25:=Tryz.zeroValue29 }
def YtfjpfjnepdhnaaaGreat.layContainsL_ren:Go.Shelf.Ren:=⟨fun|8=>60|6=>74|n=>n,fun|22=>22|23=>36|25=>98|4=>4|3=>3|0=>0|n=>n,fun|n=>n⟩
theorem YtfjpfjnepdhnaaaGreat.layContainsL:Go.Proofs.SlLaysH0.n8 Tryz.prog YtfjpfjnepdhnaaaGreat.layContainsL_ren:={
 mixed:=by kernel_rfl
 f6:=⟨Tryz.f74.name,by decide,Tryz.func74.trans (mM some (by kernel_rfl))⟩
 f8:=⟨Tryz.f60.name,by decide,Tryz.func60.trans (mM some (by kernel_rfl))⟩
 t0:=Tryz.underlying0
 a0:=Tryz.isAgg0
 z0:=Tryz.sizeOf0
 v0:=Tryz.zeroValue0
 t3:=Tryz.underlying3
 a3:=Tryz.isAgg3
 z3:=Tryz.sizeOf3
 v3:=Tryz.zeroValue3
 t4:=Tryz.underlying4
 a4:=Tryz.isAgg4
 z4:=Tryz.sizeOf4
 v4:=Tryz.zeroValue4
 t22:=Tryz.underlying22
 a22:=Tryz.isAgg22
 z22:=Tryz.sizeOf22
 v22:=Tryz.zeroValue22
 t25:=Tryz.underlying98
 a25:=Tryz.isAgg98
 z25:=Tryz.sizeOf98
 v25:=Tryz.zeroValue98 }
end
end Go.Proofs
namespace Go.Proofs.YtfjpfjnepdhnaaaGreat
open Go Go.Shelf Go.RowKit Go.Lib Go.Sort Go.Proofs.YtfjpfjnepdhnaaaGreat.R
set_option linter.unusedVariables false
set_option linter.unusedSimpArgs false
section
set_option maxHeartbeats 1000000 in
theorem Lr(x y:Int×Int)(W:World):Calls Tryz.prog 139 #[.agg #[.int .i64 x.1,.int .i64 x.2],.agg #[.int .i64 y.1,.int .i64 y.2]] W fun e w'=>e = .returned (.int .i64 (Lib.compareInt y.2 x.2))/\∃q os',w'=Go.Sort.grow (W.drewN q) os':=by
 have hcon:=fun W'=>Any.cmp_Compare_int layCompare y.2 x.2 W';change ∀W',Calls Tryz.prog 140 _ _ _ at hcon;generalize Lib.compareInt y.2 x.2=r at hcon ⊢
 go_enter Tryz.func139,Tryz.ntmps139
 go_wp2_with (go_at_call 140;refine(hcon _).mono ?_;rintro e w' ⟨rfl,rfl⟩)
 go_ret
 exact⟨rfl,0,_,by rw[Go.Sort.alloc_eq_grow,Go.Sort.alloc_eq_grow,Go.Sort.grow_grow];rfl⟩
theorem O1:∀b o s w,CmpLays Tryz.prog 139 #[] uT 2 DJ b o s w:=fun _ _ _ _ _ _ _ _ x y=>Lr x y _
theorem O4:∀w,(isAgg 181).run Tryz.prog w = .ok true w:=Tryz.isAgg181
theorem Mf:∀w,(Go.sizeOf 181).run Tryz.prog w = .ok 2 w:=Tryz.sizeOf181
theorem Hn:∀args w,(callFunc 139 args).run Tryz.prog w = .ok (.enter 139 args) w:=enters_of Tryz.func139 (by kernel_rfl) rfl
end
section
set_option maxHeartbeats 2000000 in
theorem Gp:wJ Tryz.prog 56 (.calc Bg):=by
 intro b0 β ob w av hO hlt xs us r hxs hf;unfold Bg at hf;split at hf
 .rename_i i l a p q;injection hf with hf;injection hf with _ hf;subst hf;obtain⟨A1,c1,A2,c2,x,y,rfl⟩:=Gn hxs;clear hxs;show Calls Tryz.prog 56 #[_] w _
  go_enter Tryz.func56,Tryz.ntmps56
  go_wp2;refine P0 (v:=.agg #[.int .i64 1,.int .i64 (IntKind.wrap .i64 (1+i)),.int .i64 (IntKind.wrap .i64 (IntKind.wrap .i64 (1+i)+(List.length (α:=Int×Int) l:Int))),.int .i64 (IntKind.wrap .i64 (IntKind.wrap .i64 (IntKind.wrap .i64 (1+i)+(List.length (α:=Int×Int) l:Int))+(List.length (α:=Int×Int) a:Int)))]) (Dp rfl rfl (P7 _ _ 95 95 _ (0,0) _ ?_ Tryz.underlying95 rfl (by kernel_rfl))) rfl ?_;rw[He];simp only[LU,Go.RowKit.wrap64];exact⟨_,rfl,fy (((GI _ w).alloc (dD _) _).alloc (by simp) _),fun bad'=>Ib i (List.length (α:=Int×Int) l:Int) (List.length (α:=Int×Int) a:Int) bad'⟩
 cases hf
theorem D6:O5 Tryz.prog 57:=by
 intro B s w hB hcell W x hb;have hc:W.cell? ⟨B,3,none⟩=some (.int .i64 s):=(hb.cell (p:=⟨B,3,none⟩) hB).trans hcell;show Calls Tryz.prog 57 #[.int .i64 x,.pointer (some ⟨B,0,none⟩)] W _
 go_enter Tryz.func57,Tryz.ntmps57
 go_wp2
 all_goals (go_ret;exact⟨by rw[Oa];first|rfl|(rename_i h;rw[kp h];rfl),0,rfl⟩)
theorem NP:J9 Tryz.prog 57 58:=by
 intro B C s w hB hC hfn hcell W x hb;have hc:W.cell? ⟨B,3,none⟩=some (.int .i64 s):=(hb.cell (p:=⟨B,3,none⟩) hB).trans hcell;have hcf:W.cell? ⟨C,0,none⟩=some (.func (.func 57) #[] #[.pointer (some ⟨B,0,none⟩)]):=(hb.cell (p:=⟨C,0,none⟩) hC).trans hfn;have hBW:B<W.heap.size:=uY hB hb.size;have hCW:C<W.heap.size:=uY hC hb.size;have hneB:B≠W.heap.size:=by omega
 have hneC:C≠W.heap.size:=by omega
 have eg:∀args w,(callFunc 57 args).run Tryz.prog w = .ok (.enter 57 args) w:=enters_of Tryz.func57 (by kernel_rfl) rfl;have hcon:=fun(V:World) (h:Below w.heap.size w V)=>D6 B s w hB hcell V x.1 h;show Calls Tryz.prog 58 #[.agg #[.int .i64 x.1,.int .i64 x.2],.pointer (some ⟨C,0,none⟩)] W _
 go_enter Tryz.func58,Tryz.ntmps58
 go_wp2_with (go_at_fn 57;refine(hcon _ (hb.alloc hb.size _)).mono ?_;rintro e w' ⟨rfl,q,rfl⟩)
 all_goals (go_ret;exact⟨by simp_all [mS,Array.getD],below_drewN' (hb.alloc hb.size _) q⟩)
theorem MA:wJ Tryz.prog 59 (.calc (GR 57)):=N9 layContains (enters_of Tryz.func57 (by kernel_rfl) rfl) D6
theorem Ge:wJ Tryz.prog 60 (.calc (yl 57 58)):=Ke layContainsL Tryz.isAgg36 Tryz.sizeOf36 (enters_of Tryz.func58 (by kernel_rfl) rfl) NP
end
end Go.Proofs.YtfjpfjnepdhnaaaGreat

