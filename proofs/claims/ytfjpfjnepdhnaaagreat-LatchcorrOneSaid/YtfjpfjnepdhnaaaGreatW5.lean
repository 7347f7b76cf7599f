/- . -/
import Derived.Test.YtfjpfjnepdhnaaaGreatW4
import Derived.Test.YtfjpfjnepdhnaaaGreatS
import Derived.Maps.AppendAt
import Derived.Deep.LoopGhost
namespace Go.Proofs.YtfjpfjnepdhnaaaGreat
open Go Go.RowKit Go.Proofs.YtfjpfjnepdhnaaaGreat.R
set_option linter.unusedVariables false
set_option linter.unusedSimpArgs false
section
def xK(C:bC):List AV->Option (Li)
 |[.d (.list (.int .i64)) x,.d (.int .i64) n]=>
  match C 69 [.d (.int .u64) (1:Int),.d (.int .u64) n] [.d (.int .u64),.d (.int .u64)]with
  |some r=>if(show Li from x)=[-1]/\1<=(show Int from n)/\(show Int from n)<=3001/\(show Int×Int from r)=((0:Int),(show Int from n)) then some (List.replicate (show Int from n).toNat (-1)) else none
  |none=>none
 |_=>none
def Mn(C:bC)(xs:List AV):(s:List Sh)->Option (eU s)
 |[.own (.int .i64)]=>xK C xs
 |_=>none
theorem GF{C:bC}{Cn:Nat->bC}(h:xf C Cn){xs:List AV}{z:Li}(hz:xK C xs=some z):∃n,∀m,n<=m->xK (Cn m) xs=some z:=by unfold xK at hz;split at hz;split at hz;rename_i r hr;obtain⟨n,hn⟩:=h _ _ _ _ hr;refine⟨n,fun m hm=>?_⟩;simp only[xK,hn m hm];exact hz;cases hz;cases hz
def GE:HK where
 run:=Mn
 near:=by intro C Cn h xs s z hz;unfold Mn at hz;split at hz;exact GF h hz;cases hz
theorem Mm{E:Env}(h69:al E.sg 69=some ([.ro,.ro],[.d (.int .u64),.d (.int .u64)])){C:bC}(hC:fP Tryz.prog E C)(N:Nat)(hN:N<=3001)(hN1:1<=N)
  (h69a:C 69 [.d (.int .u64) (1:Int),.d (.int .u64) (N:Int)] [.d (.int .u64),.d (.int .u64)]=some ((0:Int),(N:Int)))
  (b0:Nat->Prop) (w:World) (vs:List Value) (bs:Ln) (hvs:Vs (c9 noβ [] w (fun b=>b0 b\/b∈bs)) [.d (.list (.int .i64)) ([-1]:Li),.d (.int .i64) (N:Int)] vs bs) (hb0:∀b,b0 b->b<w.heap.size) :
  Calls Tryz.prog 52 vs.toArray w fun e w'=>∃v,e = .returned v/\se b0 [.ro,.ro] [.own (.int .i64)] vs bs w w' (List.replicate N (-1:Int)) v:=by
 obtain⟨v1,vs1,b1,bs1,rfl,rfl,g1,hvs1⟩:=hvs.cons';obtain⟨v2,vs2,b2,bs2,rfl,rfl,g2,hvs2⟩:=hvs1.cons';obtain⟨rfl,rfl⟩:=hvs2.nil';obtain rfl:b1=[]:=sv g1 rfl;obtain⟨A1,c1,rfl,hA1,at1⟩:=ints_at (show eO noβ [] w _ (.d (.list (.int .i64)) ([-1]:Li)) v1 [] from g1);obtain⟨rfl,rfl⟩:=cP g2;obtain⟨X,o,rfl,hX,hc⟩:=at1 0 (-1) rfl;have hM:∀W,Below w.heap.size w W->Calls Tryz.prog 69 #[.int .u64 1,.int .u64 (N:Int)] W fun e w'=>e = .returned (.tuple #[.int .u64 0,.int .u64 (N:Int)])/\Below W.heap.size W w':=by intro W hb;refine((hC 69 _ _ h69 _ _ h69a).2 (fun _=>False) W _ [] (.cons (b:=[]) (iy _ _) (.cons (b:=[]) (iy _ _) .nil)) rN (by simp) (fun _ h=>h.elim)).mono fun e w' h=>?_;obtain⟨v,rfl,hres⟩:=h;obtain⟨e1,e2,_,hbs,hv,_⟩:=hres.res;obtain⟨us,rfl,hu⟩:=hv;obtain⟨x1,y1,m1,n1,rfl,_,j1,hu⟩:=hu.cons';obtain⟨x2,y2,m2,n2,rfl,_,j2,hu⟩:=hu.cons';obtain⟨rfl,_⟩:=hu.nil';obtain⟨rfl,-⟩:=cP (β:=noβ) (ob:=[]) (w:=w') (show c9 noβ [] w' _ (.d (.int .u64) (0:Int)) x1 m1 from j1);obtain⟨rfl,-⟩:=cP (β:=noβ) (ob:=[]) (w:=w') (show c9 noβ [] w' _ (.d (.int .u64) (N:Int)) x2 m2 from j2);exact⟨rfl,nQ hres.same (by simp)⟩
 refine(GD X o c1 N w hN hN1 (by simpa using hc) hM).mono ?_;rintro e w' ⟨T,rfl,hT,hbel,hrow⟩;have hTl:=lt_of_block hrow;have hnew:qM w' (fun b=>b0 b\/b∈[T]++[]) (.int .i64) (List.replicate N (-1:Int)) (.slice (some ⟨T,0,none⟩) N N) [T]:=by
  refine .inr ⟨T,0,N,rfl,by rw[qz],_,3,hrow,⟨by rw[qz];exact dD _,by omega⟩,by simp[Go.Proofs.YtfjpfjnepdhnaaaGreat.R.Ty.size],fun j x hx=>?_⟩;refine⟨[.int .i64 x],rfl,fun k v hk=>?_⟩;have hj:j<N:=by simpa using(tR.1 hx).1
  rw[Po hj]at hx;cases hx;cases k with
  |zero=>simp at hk;subst hk;simp[Go.Proofs.YtfjpfjnepdhnaaaGreat.R.Ty.size,hj]
  |succ k=>simp at hk
 refine⟨_,rfl,⟨(fy hbel).mono fun _ _ h=>h.elim,[T],[],by simp,fun b hb=>?_,hnew,.nil⟩⟩;simp at hb;subst hb;exact⟨hTl,.inr hT⟩
theorem OD{E:Env}(h52:al E.sg 52=some ([.ro,.ro],[.own (.int .i64)]))(h69:al E.sg 69=some ([.ro,.ro],[.d (.int .u64),.d (.int .u64)])):LH Tryz.prog E 52 GE:=by intro C hC ms rs hsg xs r hans b0 w vs bs hvs hnd hbs hb0;rw[h52]at hsg;cases hsg;have hans':xK C xs=some r:=hans;clear hans;unfold xK at hans';split at hans';rename_i x n;split at hans';rename_i r69 h69a;split at hans';rename_i hcond;obtain⟨hx,n0,n1,hr⟩:=hcond;obtain⟨N,hN⟩:=N7 (show 0<=(show Int from n) by omega);have h69b:=h69a.trans (mM some hr);cases hans';subst hN;subst hx;exact Mm h69 hC N (by have h:(N:Int)<=3001:=n1;omega) (by have h:1<=(N:Int):=n0;omega) h69b b0 w vs bs hvs hb0;cases hans';cases hans';cases hans'
end
section
abbrev LL:=List (List Int)
abbrev yi:=Int->Int->Option (Bool×Int)
def DA(i:Int)(L:LP)(m:Int):Option Int:=
 if m=0 then some 0
 else if 2*(i+1)<=m/\m<=100000 then
  match L[(m/2-i-1).toNat]? with
  |some g=>if 0<=g.1/\g.1<=100000 then some (gG g.1 m) else none
  |none=>none
 else none
def qF(i:Int)(L:LP)(E:yi)(m h:Int):Option (Bool×Int):=
 match DA i L m with
 |some a=>match DA i L h with
  |some b=>E a b
  |none=>none
 |none=>none
def nX(q:Int->Option (Bool×Int))(st:Option (Sum Int (Li×Li)))(m:Int):Option (Sum Int (Li×Li)):=
 match st with
 |some (.inr (a,b))=>match q m with
  |some (t,e)=>if e=0 then some (.inr (if t=true then(a++[m],b) else(a,b++[m]))) else some (.inl e)
  |none=>none
 |some (.inl e)=>some (.inl e)
 |none=>none
def oY(q:Int->Option (Bool×Int))(h:Int)(ms:Li):Option (Sum Int (Li×Li)):=ms.foldl (nX q) (some (.inr ([h],[])))
def l6(Q:Int->Int->Option (Bool×Int))(st:Option (Sum Int (LL×LL)))(cl:Li):Option (Sum Int (LL×LL)):=
 match st with
 |some (.inr (S,L))=>match cl with
  |[]=>none
  |h::ms=>match oY (fun m=>Q m h) h ms with
   |some (.inr (a,b))=>some (.inr (S++[a],if b=[] then L else L++[b]))
   |some (.inl e)=>some (.inl e)
   |none=>none
 |some (.inl e)=>some (.inl e)
 |none=>none
def pb(Q:Int->Int->Option (Bool×Int))(l:LL):Option (Sum Int (LL×LL)):=l.foldl (l6 Q) (some (.inr ([],[])))
def sk(l:LL):Bool:=decide (l.length<=1001)&&l.all fun c=>decide (c.length<=1001)
def mj(B:LL->Option gB)(E:gB->yi)(i:Int):Nat->LL->Option (Sum Int (LL×gB))
 |0,_=>none
 |n+1,l=>if sk l=true then match B l with
  |none=>none
  |some x=>match pb (qF i x.2.1 (E x)) l with
   |some (.inr (S,L))=>if L=[] then some (.inr (l,x)) else mj B E i n (S++L)
   |some (.inl e)=>some (.inl e)
   |none=>none
  else none
def fV(i:Int)(Ls:LP):Nat->Li
 |0=>[0]
 |k+1=>match Ls[k]? with
  |some g=>if g.2=2 then fV i Ls k else fV i Ls k++[2*(i+1+(k:Int))+g.2]
  |none=>fV i Ls k
def yg(H:Nat)(w:World)(r:Li)(v:Value):Prop:=
 ∃b o c,v = .slice (some ⟨b,o,none⟩) r.length c/\r.length<=c/\0<r.length/\H<=b/\∀(j:Nat) (x:Int),r[j]?=some x->w.cell? ⟨b,o+j,none⟩=some (.int .i64 x)
def lS(H:Nat)(w:World)(P:Nat->Prop)(L:LL)(cs:List Value):Prop:=
 cs.length=L.length/\∀(j:Nat) (r:Li),L[j]?=some r->∃v,cs[j]?=some v/\yg H w r v/\∀g,v.ownBlock=some g->P g
def wK(H:Nat)(w:World)(L:LL)(v:Value):Prop:=
 ∃b o c cs,v = .slice (some ⟨b,o,none⟩) L.length c/\L.length<=c/\H<=b/\(∀(j:Nat) (u:Value),cs[j]?=some u->w.cell? ⟨b,o+j,none⟩=some u)/\lS H w (fun _=>True) L cs
theorem yg.kept{H:Nat}{w w':World}{r:Li}{v:Value}(h:yg H w r v)(hb:∀g,v.ownBlock=some g->g<w.heap.size->w'.heap[g]?=w.heap[g]?):yg H w' r v:=by obtain⟨b,o,c,rfl,h1,h2,h3,h4⟩:=h;refine⟨b,o,c,rfl,h1,h2,h3,fun j x hx=>?_⟩;have hc:=h4 j x hx;have hlt:=JQ _ _ hc;exact(HU (a:=⟨b,o+j,none⟩) (hb b rfl hlt)).trans hc
theorem yg.lt{H:Nat}{w:World}{r:Li}{v:Value}(h:yg H w r v):∀g,v.ownBlock=some g->g<w.heap.size:=by obtain⟨b,o,c,rfl,h1,h2,h3,h4⟩:=h;intro g hg;cases hg;exact JQ _ _ (h4 0 _ (c6 h2))
theorem lS.kept{H:Nat}{w w':World}{P P':Nat->Prop}{L:LL}{cs:List Value}(h:lS H w P L cs)(hb:∀g,P g->g<w.heap.size->w'.heap[g]?=w.heap[g]?)(hP:∀g,P g->g<w.heap.size->P' g):lS H w' P' L cs:=by refine⟨h.1,fun j r hr=>?_⟩;obtain⟨v,h1,h2,h3⟩:=h.2 j r hr;exact⟨v,h1,h2.kept fun g hg hlt=>hb g (h3 g hg) hlt,fun g hg=>hP g (h3 g hg) (h2.lt g hg)⟩
theorem lS.snoc{H:Nat}{w:World}{P:Nat->Prop}{L:LL}{cs:List Value}{r:Li}{v:Value}(h:lS H w P L cs)(hr:yg H w r v)(hP:∀g,v.ownBlock=some g->P g):lS H w P (L++[r]) (cs++[v]):=by
 refine⟨by simp[h.1],fun j r' hj=>?_⟩;rw[Qk]at hj;split at hj;obtain⟨u,h1,h2⟩:=h.2 j r' hj;exact⟨u,by rw[su (by rw[h.1];assumption)];exact h1,h2⟩;rename_i hlt;have hj0:j-L.length=0:=by rcases NH (j-L.length) with h0|h0;exact h0;rw[qA (by simp;omega)]at hj;cases hj
 rw[hj0]at hj;cases hj;exact⟨v,by rw[vw (by rw[h.1];omega),h.1,hj0];rfl,hr,hP⟩
theorem lS.append{H:Nat}{w:World}{P:Nat->Prop}{L M:LL}{cs ds:List Value}(h:lS H w P L cs)(h':lS H w P M ds):lS H w P (L++M) (cs++ds):=by refine⟨by simp[h.1,h'.1],fun j r hj=>?_⟩;rw[Qk]at hj;split at hj;obtain⟨u,h1,h2⟩:=h.2 j r hj;exact⟨u,by rw[su (by rw[h.1];assumption)];exact h1,h2⟩;rename_i hlt;obtain⟨u,h1,h2⟩:=h'.2 _ r hj;exact⟨u,by rw[vw (by rw[h.1];omega),h.1];exact h1,h2⟩
theorem lS.nil{H:Nat}{w:World}{P:Nat->Prop}:lS H w P [] []:=⟨rfl,fun j r h=>by simp at h⟩
theorem wK.kept{H:Nat}{w w':World}{L:LL}{v:Value}(h:wK H w L v)(hb:∀g,H<=g->g<w.heap.size->w'.heap[g]?=w.heap[g]?):wK H w' L v:=by obtain⟨b,o,c,cs,rfl,h1,h2,h3,h4,h5⟩:=h;refine⟨b,o,c,cs,rfl,h1,h2,fun j u hu=>?_,h4,fun j r hr=>?_⟩;have hc:=h3 j u hu;exact(HU (a:=⟨b,o+j,none⟩) (hb b h2 (JQ _ _ hc))).trans hc;obtain⟨v,g1,g2,g3⟩:=h5 j r hr;refine⟨v,g1,g2.kept fun g hg hlt=>hb g ?_ hlt,g3⟩;obtain⟨b',o',c',rfl,_,_,hH,_⟩:=g2;cases hg;exact hH
theorem Er{H:Nat}{w:World}{L:LL}{v:Value}{bad:Nat->Prop}(h:wK H w L v)(hb:∀b,H<=b->¬bad b):eO noβ [] w bad (.d (.list (.list (.int .i64))) L) v []:=by
 obtain⟨b,o,c,cs,rfl,h1,h2,h3,h4⟩:=h;refine⟨rfl,_,rfl,_,_,rfl,h1,by simp,fun a ha i r hr=>?_⟩;cases ha;obtain⟨u,hu,⟨g,p,d,rfl,g1,g2,g3,g4⟩,_⟩:=h4.2 i r hr;refine⟨rfl,hb b h2,[.slice (some ⟨g,p,none⟩) r.length d],⟨_,_,rfl,g1,by simp,fun a ha j x hx=>?_⟩,fun j v hj=>?_⟩
 .cases ha;refine⟨rfl,hb g g3,[.int .i64 x],rfl,fun k v hk=>?_⟩;cases k with
  |zero=>simp at hk;subst hk;simpa[Go.Proofs.YtfjpfjnepdhnaaaGreat.R.Ty.size]using g4 j x hx
  |succ k=>simp at hk
 .cases j with
  |zero=>simp at hj;subst hj;simpa[Go.Proofs.YtfjpfjnepdhnaaaGreat.R.Ty.size]using h3 i _ hu
  |succ j=>simp at hj
def Nr(H base:Nat)(w:World)(l:Li)(v:Value):Prop:=
 w.ownsRow base 3 1 v l.length (l.map (Value.int .i64))\/(l.length=1/\∃g o,v = .slice (some ⟨g,o,none⟩) 1 1/\g<base/\H<=g/\∀(j:Nat) (x:Int),l[j]?=some x->w.cell? ⟨g,o+j,none⟩=some (.int .i64 x))
theorem My{w:World}{base:Nat}{v:Value}{l:Li}(h:w.ownsRow base 3 1 v l.length (l.map (Value.int .i64)))(hl:0<l.length):∃b c,v = .slice (some ⟨b,0,none⟩) l.length c/\l.length<=c/\base<=b/\∀(j:Nat) (x:Int),l[j]?=some x->w.cell? ⟨b,0+j,none⟩=some (.int .i64 x):=by
 rcases h.2 with⟨_,h0⟩|⟨g,cap,cur,rfl,h2,h3,h4,h5,h6,h7⟩;omega;refine⟨g,cap,rfl,h4,h2,fun j x hx=>?_⟩;have hx':(l.map (Value.int .i64))[j]?=some (.int .i64 x):=by rw[Kv,hx];rfl
 rw[<-h7,D5]at hx';split at hx';rw[cell_of h3,Dk];simpa using hx';cases hx'
theorem E8{w:World}{H base:Nat}{v:Value}{l:Li}(h:w.ownsRow base 3 1 v l.length (l.map (Value.int .i64)))(hl:0<l.length)(hH:H<=base):yg H w l v:=by obtain⟨b,c,rfl,h1,h2,h3⟩:=My h hl;exact⟨b,0,c,rfl,h1,hl,by omega,h3⟩
theorem Nr.row{w:World}{H base:Nat}{v:Value}{l:Li}(h:Nr H base w l v)(hl:0<l.length)(hH:H<=base):yg H w l v:=by rcases h with h|⟨h1,g,o,rfl,h2,h3,h4⟩;exact E8 h hl hH;exact⟨g,o,1,by rw[h1],by omega,hl,h3,h4⟩
theorem Nr.kept{w w':World}{H base:Nat}{v:Value}{l:Li}(h:Nr H base w l v)(hb:∀g,v.ownBlock=some g->g<w.heap.size->w'.heap[g]?=w.heap[g]?):Nr H base w' l v:=by rcases h with h|⟨h1,g,o,rfl,h2,h3,h4⟩;left;refine⟨h.1,?_⟩;rcases h.2 with hn|⟨g,cap,cur,rfl,hbg,hgg,rest⟩;exact .inl hn;exact .inr ⟨g,cap,cur,rfl,hbg,(hb g rfl (NK.1 hgg).1).trans hgg,rest⟩;refine .inr ⟨h1,g,o,rfl,h2,h3,fun j x hx=>?_⟩;have hc:=h4 j x hx;exact(HU (a:=⟨g,o+j,none⟩) (hb g rfl (JQ _ _ hc))).trans hc
theorem pj{w w':World}{base e n:Nat}{v:Value}{xs:List Value}(h:w.ownsRow base e 1 v n xs)(hb:∀g,v.ownBlock=some g->g<w.heap.size->w'.heap[g]?=w.heap[g]?):w'.ownsRow base e 1 v n xs:=by refine⟨h.1,?_⟩;rcases h.2 with hn|⟨g,cap,cur,rfl,hbg,hgg,rest⟩;exact .inl hn;exact .inr ⟨g,cap,cur,rfl,hbg,(hb g rfl (NK.1 hgg).1).trans hgg,rest⟩
theorem Kw{w:World}{base e n:Nat}{v:Value}{xs:List Value}(h:w.ownsRow base e 1 v n xs):∃A c,v = .slice A n c:=by rcases h.2 with⟨rfl,rfl⟩|⟨g,cap,cur,rfl,_⟩;exact⟨_,_,rfl⟩;exact⟨_,_,rfl⟩
theorem Of:∃i:TypeInfo,Tryz.prog.info? 24=some i/\i.zero=some (.slice none 0 0)/\i.size=1/\i.bytes=24:=by
 have h1:(Tryz.prog.info? 24).map (fun i=>(i.size,i.bytes))=some (1,24):=by kernel_rfl
 have h2:(Tryz.prog.info? 24).bind (fun i=>i.zero)=some (.slice none 0 0):=by kernel_rfl
 cases h:Tryz.prog.info? 24 with
 |none=>rw[h]at h1;cases h1
 |some i=>rw[h]at h1 h2;simp only[OS,s8,N3,aj]at h1 h2;exact⟨i,rfl,h2,h1.1,h1.2⟩
def PJ(w w':World)(v v':Value)(base:Nat):Prop:=
 w'.os=w.os/\w'.tape=w.tape/\w'.output=w.output/\w.heap.size<=w'.heap.size/\(v'.ownBlock=v.ownBlock\/v'.ownBlock=some w.heap.size)/\v' ≠ .slice none 0 0 /\
  ∀g,g<w.heap.size->(g<base\/v.ownBlock≠some g)->w'.heap[g]?=w.heap[g]?
theorem AO{w:World}{ops:Array Oper}{rest:List Oper}{o:Oper}{a:Act}{Q:Exit->Act->World->Prop}(hgd:o.guard=none)(s x:Operand)(ho:o.op = .call ⟨.builtin .append,#[s,x],#[24,24]⟩)
  (H base:Nat) (vi:Value) (l:Li) (hs:a.eval s=vi) (hI:Nr H base w l vi) (X:Nat) (m:Int) (hx:a.eval x = .slice (some ⟨X,0,none⟩) 1 1) (hX:w.cell? ⟨X,0,none⟩=some (.int .i64 m)) (hl:l.length<=3000) (hbase:base<=w.heap.size)
  (K:∀v' w',w'.ownsRow base 3 1 v' (l++[m]).length ((l++[m]).map (Value.int .i64))->PJ w w' vi v' base->wpList Tryz.prog ops Q rest (a.put o.dst v') w'):wpList Tryz.prog ops Q (o::rest) a w:=by
 obtain⟨i0,hi,hz0,hz1,hz2⟩:=JW;have hnews:∀(j:Nat) (u:Value),[Value.int .i64 m][j]?=some u->w.cell? ((⟨X,0,none⟩:Addr).add j)=some u:=fun j u hu=>by
  cases j with
  |zero=>simp at hu;subst hu;exact hX
  |succ j=>simp at hu
 rcases hI with hI|⟨h1,g,p,rfl,h2,h3,h4⟩;refine wpList_append_own_at w hgd s x 24 ho base 3 i0 _ 1 8 Tryz.underlying24 hi hz0 hz1 hz2 rfl (by omega) vi l.length _ hs hI ⟨X,0,none⟩ 1 1 [.int .i64 m] hx rfl hnews (by simp[Value.oneCell']) (by unfold maxLen;omega) (by omega) hbase ?_;intro v' w' h1 h2 h3 h4;refine K v' w' (by simpa using h1) ⟨h2.os,h2.tape,h2.output,h2.size,h4,fun e=>?_,fun k hk hg=>h2.block k hk fun e=>?_⟩;have:=(h3.1 e).2;omega;rcases hg with hg|hg;have:=(hI.lt k e.symm).1;omega;exact hg e.symm;refine wpList_plain hgd fun K' hK'=>?_;obtain⟨h,rfl⟩:∃h,l=[h]:=by
  match l,h1 with
  |[h],_=>exact⟨h,rfl⟩
 have hr:=run_append_grow (P:=Tryz.prog) w 24 o.type 3 i0 _ Tryz.underlying24 hi hz0 ⟨g,p,none⟩ 1 1 [.int .i64 h] (by rw[hz1];rfl) (fun j v hj=>by
  cases j with
  |zero=>simp at hj;subst hj;exact h4 0 h rfl
  |succ j=>simp at hj) ⟨X,0,none⟩ 1 1 [.int .i64 m] (by rw[hz1];rfl) hnews (by omega) (by omega) (by rw[hz2];exact growslice_fits (by omega) (by omega))
 have hge:=grownCap_ge w 2 1 3;have hcm:grownCap w 2 1 3<=maxLen:=Rl w 2 1 3 (by unfold maxLen;omega);unfold Oper.wp execOp;simp only[ho,resolve,invoke,builtin,u7,Dt,u9,List.map_toArray,xe,JO,hs,hx,hr];refine hK' _ _ (K _ _ ⟨rfl,.inr ⟨w.heap.size,_,_,rfl,hbase,heap_alloc_new w.drew _,?_,hcm,?_,?_⟩⟩ ⟨rfl,rfl,rfl,by simp,.inr rfl,by simp,fun k hk _=>Iq w.drew _ k hk⟩);simpa using hge;simp[Value.cells,size_zeroCells];omega;simp
end
section
theorem MD{i:Int}{L:LP}{m y:Int}(h:DA i L m=some y):(m=0/\y=0)\/(m≠0/\2*(i+1)<=m/\m<=100000/\∃g,L[(m/2-i-1).toNat]?=some g/\0<=g.1/\g.1<=100000/\y=gG g.1 m):=by unfold DA at h;split at h;rename_i h0;exact .inl ⟨h0,(uR h).symm⟩;rename_i h0;split at h;rename_i h1;split at h;rename_i g hg;split at h;rename_i h2;exact .inr ⟨h0,h1.1,h1.2,g,hg,h2.1,h2.2,(uR h).symm⟩;cases h;cases h;cases h
set_option maxRecDepth 1000000 in
set_option maxHeartbeats 4000000 in
theorem JT(Xb Cb:Nat)(i m y:Int)(L:LP)(A:Option Addr)(c:Nat)(w:World)(i0:0<=i)(i1:i<=1000)(hL:L.length<=1000)(hy:DA i L m=some y)
  (hx:w.cell? ⟨Xb,1,none⟩=some (.slice A L.length c)) (hc:w.cell? ⟨Cb,0,none⟩=some (.int .i64 i))
  (hat:∀(j:Nat) (x:Int×Int),L[j]?=some x->∃b o,A=some ⟨b,o,none⟩/\b<w.heap.size/\w.cell? ⟨b,o+j*2,none⟩=some (.int .i64 x.1)/\w.cell? ⟨b,o+j*2+1,none⟩=some (.int .i64 x.2)) :
  Calls Tryz.prog 50 #[.int .i64 m,.pointer (some ⟨Xb,0,none⟩),.pointer (some ⟨Cb,0,none⟩)] w fun e w'=>e = .returned (.int .i64 y)/\w'=w:=by
 rcases MD hy with⟨rfl,rfl⟩|⟨hm0,hm1,hm2,g,hg,g0,g1,rfl⟩
 .clear hy hat
  go_enter Tryz.func50,Tryz.ntmps50
  go_wp2
  go_ret
  exact⟨rfl,rfl⟩
 .obtain⟨k,hk⟩:∃k:Nat,m/2=i+1+(k:Int):=⟨(m/2-i-1).toNat,by omega⟩;rw[show(m/2-i-1).toNat=k by omega]at hg;obtain⟨b,o,rfl,hb,h1,h2⟩:=hat k g hg;have hkl:k<L.length:=(tR.1 hg).1;have ha:=Oz (l:=m) (by omega) (by omega);have hx2:=DP (t:=g.1) (l:=m) g0 (by omega) (by omega);have hq:Int.tdiv m 2=i+1+(k:Int):=by rw[<-hk,Rr (by omega)]
  have hm0':(m==0)=false:=Qu hm0;have hs1:IntKind.i64.wrap (i+1+(k:Int)-i)=1+(k:Int):=by rw[LU];omega
  have hs2:IntKind.i64.wrap (1+(k:Int)-1)=(k:Int):=by rw[LU];omega
  have hs3:IntKind.i64.wrap (i+1+(k:Int))=i+1+(k:Int):=by rw[LU];omega
  clear hy hat h2 hg
  go_enter Tryz.func50,Tryz.ntmps50
  go_wp2
  go_ret
  exact⟨rfl,rfl⟩
end
section
theorem Bk{P:Program}{fn:Func}{tmps:Array Value}{a b c:Tmp}{t:TypeId}(h:fn.results = #[.tmp a,.cell b t,.tmp c]){p:Addr}{v va vc:Value}{w:World}(ha:tmps.getD a undef=va)(hp:tmps.getD b undef = .pointer (some p))(hl:(loadVar t p).run P w = .ok v w)(hc:tmps.getD c undef=vc):
  (results fn tmps).run P w = .ok (.tuple #[va,v,vc]) w:=by
 rw[Pn]at hp ha hc;simp[results,h,hp,hl,ha,hc,asAddr]
def pF(W:World)(R:Nat)(v0 v1 v2 v3 v4:Value):World:=((((W.setCell ⟨R,0,none⟩ v0).setCell ⟨R,1,none⟩ v1).setCell ⟨R,2,none⟩ v2).setCell ⟨R,3,none⟩ v3).setCell ⟨R,4,none⟩ v4
theorem FQ(W:World)(R:Nat)(v0 v1 v2 v3 v4 z0 z1 z2 z3 z4:Value)(g0:W.heap[R]?=some (.cells #[z0,z1,z2,z3,z4] 26 (0,0))):
  W.cell? ⟨R,0,none⟩=some z0 /\
  W.frozen? ⟨R,0,none⟩=false /\
  (W.setCell ⟨R,0,none⟩ v0).cell? ⟨R,1,none⟩=some z1 /\
  (W.setCell ⟨R,0,none⟩ v0).frozen? ⟨R,1,none⟩=false /\
  ((W.setCell ⟨R,0,none⟩ v0).setCell ⟨R,1,none⟩ v1).cell? ⟨R,2,none⟩=some z2 /\
  ((W.setCell ⟨R,0,none⟩ v0).setCell ⟨R,1,none⟩ v1).frozen? ⟨R,2,none⟩=false /\
  (((W.setCell ⟨R,0,none⟩ v0).setCell ⟨R,1,none⟩ v1).setCell ⟨R,2,none⟩ v2).cell? ⟨R,3,none⟩=some z3 /\
  (((W.setCell ⟨R,0,none⟩ v0).setCell ⟨R,1,none⟩ v1).setCell ⟨R,2,none⟩ v2).frozen? ⟨R,3,none⟩=false /\
  ((((W.setCell ⟨R,0,none⟩ v0).setCell ⟨R,1,none⟩ v1).setCell ⟨R,2,none⟩ v2).setCell ⟨R,3,none⟩ v3).cell? ⟨R,4,none⟩=some z4 /\
  ((((W.setCell ⟨R,0,none⟩ v0).setCell ⟨R,1,none⟩ v1).setCell ⟨R,2,none⟩ v2).setCell ⟨R,3,none⟩ v3).frozen? ⟨R,4,none⟩=false /\
  (pF W R v0 v1 v2 v3 v4).heap[R]?=some (.cells #[v0,v1,v2,v3,v4] 26 (0,0)) /\
  (∀k,k≠R->(pF W R v0 v1 v2 v3 v4).heap[k]?=W.heap[k]?) /\
  ((pF W R v0 v1 v2 v3 v4).os=W.os/\(pF W R v0 v1 v2 v3 v4).tape=W.tape/\(pF W R v0 v1 v2 v3 v4).output=W.output/\(pF W R v0 v1 v2 v3 v4).heap.size=W.heap.size):=by
 have g1:(W.setCell ⟨R,0,none⟩ v0).heap[R]?=some (.cells #[v0,z1,z2,z3,z4] 26 (0,0)):=by have:=cw (u:=v0) g0 (o:=0) (by simp);simpa using this
 have g2:((W.setCell ⟨R,0,none⟩ v0).setCell ⟨R,1,none⟩ v1).heap[R]?=some (.cells #[v0,v1,z2,z3,z4] 26 (0,0)):=by have:=cw (u:=v1) g1 (o:=1) (by simp);simpa using this
 have g3:(((W.setCell ⟨R,0,none⟩ v0).setCell ⟨R,1,none⟩ v1).setCell ⟨R,2,none⟩ v2).heap[R]?=some (.cells #[v0,v1,v2,z3,z4] 26 (0,0)):=by have:=cw (u:=v2) g2 (o:=2) (by simp);simpa using this
 have g4:((((W.setCell ⟨R,0,none⟩ v0).setCell ⟨R,1,none⟩ v1).setCell ⟨R,2,none⟩ v2).setCell ⟨R,3,none⟩ v3).heap[R]?=some (.cells #[v0,v1,v2,v3,z4] 26 (0,0)):=by have:=cw (u:=v3) g3 (o:=3) (by simp);simpa using this
 have g5:(pF W R v0 v1 v2 v3 v4).heap[R]?=some (.cells #[v0,v1,v2,v3,v4] 26 (0,0)):=by have:=cw (u:=v4) g4 (o:=4) (by simp);unfold pF;simpa using this
 exact⟨by simp only[World.cell?,g0];rfl,
  by simp only[World.frozen?,g0];rfl,
  by simp only[World.cell?,g1];rfl,
  by simp only[World.frozen?,g1];rfl,
  by simp only[World.cell?,g2];rfl,
  by simp only[World.frozen?,g2];rfl,
  by simp only[World.cell?,g3];rfl,
  by simp only[World.frozen?,g3];rfl,
  by simp only[World.cell?,g4];rfl,
  by simp only[World.frozen?,g4];rfl,g5,
  fun k hk=>by unfold pF;rw[GJ _ _ _ _ hk,GJ _ _ _ _ hk,GJ _ _ _ _ hk,GJ _ _ _ _ hk,GJ _ _ _ _ hk],by simp[pF,World.setCell],by simp[pF,World.setCell],by simp[pF,World.setCell],by simp[pF]⟩
def ER(q:Int->Option (Bool×Int))(h:Int)(ms:Li)(k:Nat):Option (Sum Int (Li×Li)):=oY q h (ms.take k)
theorem DQ{q:Int->Option (Bool×Int)}{h m:Int}{ms:Li}{k:Nat}(hm:ms[k]?=some m):ER q h ms (k+1)=nX q (ER q h ms k) m:=by have hk:=(tR.1 hm);obtain⟨hlt,rfl⟩:=hk;unfold ER oY;rw[Qi hlt,Pj];rfl
theorem yu{q:Int->Option (Bool×Int)}(ms:Li):(∀e,ms.foldl (nX q) (some (.inl e))=some (.inl e))/\ms.foldl (nX q) none=none:=by
 induction ms with
 |nil=>exact⟨fun e=>rfl,rfl⟩
 |cons m ms ih=>exact⟨fun e=>ih.1 e,ih.2⟩
theorem Gs{q:Int->Option (Bool×Int)}{h:Int}{ms:Li}(k:Nat):(∀e,ER q h ms k=some (.inl e)->oY q h ms=some (.inl e))/\(ER q h ms k=none->oY q h ms=none):=by unfold ER oY;refine⟨fun e he=>?_,fun he=>?_⟩;rw[<-List.take_append_drop k ms,Pj,he];exact(yu _).1 e;rw[<-List.take_append_drop k ms,Pj,he];exact(yu _).2
theorem Gr{q:Int->Option (Bool×Int)}{h:Int}{ms:Li}:∀(k:Nat) (a b:Li),k<=ms.length->ER q h ms k=some (.inr (a,b))->a.length+b.length=k+1/\0<a.length
 |0,a,b,_,hs=>by cases hs;simp
 |k+1,a,b,hk,hs=>by have hm:ms[k]?=some ms[k]:=c6 (by omega);rw[DQ hm]at hs;unfold nX at hs;split at hs;rename_i a' b' h0;have ih:=Gr k a' b' (by omega) h0;split at hs;split at hs;have hs:=Sum.inr.inj (uR hs);split at hs<;>cases hs<;>simp<;>omega;cases hs;cases hs;cases hs;cases hs
def BM(Q:Int->Int->Option (Bool×Int))(l:LL)(k:Nat):Option (Sum Int (LL×LL)):=pb Q (l.take k)
theorem DY{Q:Int->Int->Option (Bool×Int)}{l:LL}{cl:Li}{k:Nat}(hm:l[k]?=some cl):BM Q l (k+1)=l6 Q (BM Q l k) cl:=by obtain⟨hlt,rfl⟩:=(tR.1 hm);unfold BM pb;rw[Qi hlt,Pj];rfl
theorem yw{Q:Int->Int->Option (Bool×Int)}(l:LL):(∀e,l.foldl (l6 Q) (some (.inl e))=some (.inl e))/\l.foldl (l6 Q) none=none:=by
 induction l with
 |nil=>exact⟨fun e=>rfl,rfl⟩
 |cons m ms ih=>exact⟨fun e=>ih.1 e,ih.2⟩
theorem Gz{Q:Int->Int->Option (Bool×Int)}{l:LL}(k:Nat):(∀e,BM Q l k=some (.inl e)->pb Q l=some (.inl e))/\(BM Q l k=none->pb Q l=none):=by unfold BM pb;refine⟨fun e he=>?_,fun he=>?_⟩;rw[<-List.take_append_drop k l,Pj,he];exact(yw _).1 e;rw[<-List.take_append_drop k l,Pj,he];exact(yw _).2
theorem BL{Q:Int->Int->Option (Bool×Int)}{l:LL}:∀(k:Nat) (S L:LL),k<=l.length->BM Q l k=some (.inr (S,L))->S.length=k/\L.length<=k
 |0,S,L,_,hs=>by cases hs;simp
 |k+1,S,L,hk,hs=>by have hm:l[k]?=some l[k]:=c6 (by omega);rw[DY hm]at hs;unfold l6 at hs;split at hs;rename_i S' L' h0;have ih:=BL k S' L' (by omega) h0;split at hs;cases hs;split at hs;have hs:=Sum.inr.inj (uR hs);cases hs;refine⟨by simp;omega,?_⟩;split;omega;simp;omega;cases hs;cases hs;cases hs;cases hs
structure LX(H:Nat)(W2 wr:World)(S L:LL)(vs vl:Value):Prop where
 bel:Below W2.heap.size W2 wr
 s:∃cs,wr.ownsRow W2.heap.size 24 1 vs S.length cs/\lS H wr (fun g=>vs.ownBlock≠some g/\vl.ownBlock≠some g) S cs
 l:∃cs,wr.ownsRow W2.heap.size 24 1 vl L.length cs/\lS H wr (fun g=>vs.ownBlock≠some g/\vl.ownBlock≠some g) L cs
 ne:∀g,vs.ownBlock=some g->vl.ownBlock≠some g
theorem LX.kept{H:Nat}{W2 wr w':World}{S L:LL}{vs vl:Value}(h:LX H W2 wr S L vs vl)(hb:Below wr.heap.size wr w'):LX H W2 w' S L vs vl:=by obtain⟨cs,s1,s2⟩:=h.s;obtain⟨ds,l1,l2⟩:=h.l;exact⟨h.bel.trans (hb.mono h.bel.size),⟨cs,pj s1 fun g _ hg=>hb.block g hg,s2.kept (fun g _ hg=>hb.block g hg) fun _ hP _=>hP⟩,⟨ds,pj l1 fun g _ hg=>hb.block g hg,l2.kept (fun g _ hg=>hb.block g hg) fun _ hP _=>hP⟩,h.ne⟩
structure DI(H T:Nat)(W3 wr:World)(a b:Li)(vi vo:Value):Prop where
 bel:Below W3.heap.size W3 wr
 i:Nr H W3.heap.size wr a vi
 o:wr.ownsRow W3.heap.size 3 1 vo b.length (b.map (Value.int .i64))
 o0:b=[]->vo = .slice none 0 0
 ne:∀g,vi.ownBlock=some g->vo.ownBlock≠some g
 pos:0<a.length
 low:∀g,vi.ownBlock=some g->W3.heap.size<=g\/g<T
theorem Nr.lt{w:World}{H base:Nat}{v:Value}{l:Li}(h:Nr H base w l v)(hl:0<l.length):∀g,v.ownBlock=some g->g<w.heap.size:=by rcases h with h|⟨h1,g,o,rfl,h2,h3,h4⟩;exact fun g hg=>(h.lt g hg).2;intro g' hg';cases hg';exact JQ _ _ (h4 0 _ (c6 hl))
theorem DI.kept{H T:Nat}{W3 wr w':World}{a b:Li}{vi vo:Value}(h:DI H T W3 wr a b vi vo)(hb:Below wr.heap.size wr w'):DI H T W3 w' a b vi vo:=
 ⟨h.bel.trans (hb.mono h.bel.size),h.i.kept fun g _ hg=>hb.block g hg,pj h.o fun g _ hg=>hb.block g hg,h.o0,h.ne,h.pos,h.low⟩
theorem DI.putI{H T:Nat}{W3 wr wa w':World}{a b:Li}{vi vo v':Value}{m:Int}(h:DI H T W3 wr a b vi vo)(hb:Below wr.heap.size wr wa)(ho:w'.ownsRow W3.heap.size 3 1 v' (a++[m]).length ((a++[m]).map (Value.int .i64)))(hg:PJ wa w' vi v' W3.heap.size):DI H T W3 w' (a++[m]) b v' vo:=by obtain⟨g1,g2,g3,g4,g5,g6,g7⟩:=hg;have h':=h.kept hb;have hlt:=h'.i.lt h.pos;refine⟨h'.bel.trans ⟨g1,g2,g3,g4,fun k hk=>g7 k (uY hk h'.bel.size) (.inl hk)⟩,.inl ho,pj h'.o fun g hg hlt=>g7 g hlt (.inr fun e=>h.ne g e hg),h.o0,fun g hg e=>?_,by simp,fun g hg=>.inl (ho.lt g hg).1⟩;have hgo:=(h'.o.lt g e).2;rcases g5 with g5|g5;rw[g5]at hg;exact h.ne g hg e;rw[g5]at hg;cases hg;omega
theorem DI.putO{H T:Nat}{W3 wr wa w':World}{a b:Li}{vi vo v':Value}{m:Int}(h:DI H T W3 wr a b vi vo)(hb:Below wr.heap.size wr wa)(ho:w'.ownsRow W3.heap.size 3 1 v' (b++[m]).length ((b++[m]).map (Value.int .i64)))(hg:PJ wa w' vo v' W3.heap.size):DI H T W3 w' a (b++[m]) vi v':=by obtain⟨g1,g2,g3,g4,g5,g6,g7⟩:=hg;have h':=h.kept hb;refine⟨h'.bel.trans ⟨g1,g2,g3,g4,fun k hk=>g7 k (uY hk h'.bel.size) (.inl hk)⟩,h'.i.kept fun g hg hlt=>g7 g hlt (.inr fun e=>h.ne g hg e),ho,fun e=>by simp at e,fun g hg e=>?_,h.pos,h.low⟩;have hgi:=h'.i.lt h.pos g hg;rcases g5 with g5|g5;rw[g5]at e;exact h.ne g hg e;rw[g5]at e;cases e;omega
theorem DI.atI{H T:Nat}{W3 wr wa:World}{a b:Li}{vi vo:Value}(h:DI H T W3 wr a b vi vo)(hb:Below wr.heap.size wr wa):Nr H W3.heap.size wa a vi:=(h.kept hb).i
theorem DI.atO{H T:Nat}{W3 wr wa:World}{a b:Li}{vi vo:Value}(h:DI H T W3 wr a b vi vo)(hb:Below wr.heap.size wr wa):Nr H W3.heap.size wa b vo:=.inl (h.kept hb).o
theorem LX.putS{H:Nat}{W2 wr wa w':World}{S L:LL}{vs vl v':Value}{a:Li}{va:Value}{cs:List Value}(h:LX H W2 wr S L vs vl)(hb:Below wr.heap.size wr wa)(hcs:wa.ownsRow W2.heap.size 24 1 vs S.length cs)(hrs:lS H wa (fun g=>vs.ownBlock≠some g/\vl.ownBlock≠some g) S cs)
  (ho:w'.ownsRow W2.heap.size 24 1 v' (S.length+1) (cs++[va])) (hg:wa.grownBy w' vs.ownBlock) (hat:v'.ownBlock=vs.ownBlock\/v'.ownBlock=some wa.heap.size) (ha:yg H wa a va) (hP:∀g,va.ownBlock=some g->vs.ownBlock≠some g/\vl.ownBlock≠some g):LX H W2 w' (S++[a]) L v' vl:=by
 have h':=h.kept hb;obtain⟨ds,l1,l2⟩:=h'.l;have hbel:Below W2.heap.size wa w':=⟨hg.os,hg.tape,hg.output,hg.size,fun k hk=>hg.block k (uY hk h'.bel.size) (fun e=>by have:=(hcs.lt k e.symm).1;omega)⟩;have hP':∀g,vs.ownBlock≠some g/\vl.ownBlock≠some g->g<wa.heap.size->v'.ownBlock≠some g/\vl.ownBlock≠some g:=fun g hq hlt=>⟨fun e=>by rcases hat with hat|hat;rw[hat]at e;exact hq.1 e;rw[hat]at e;cases e;omega,hq.2⟩
 have hkeep:∀g,vs.ownBlock≠some g/\vl.ownBlock≠some g->g<wa.heap.size->w'.heap[g]?=wa.heap[g]?:=fun g hq hlt=>hg.block g hlt fun e=>hq.1 e.symm;refine⟨h'.bel.trans hbel,⟨cs++[va],by rw[ey];exact ho,(hrs.snoc ha hP).kept hkeep hP'⟩,⟨ds,pj l1 fun g hgl hlt=>hg.block g hlt fun e=>h.ne g e.symm hgl,l2.kept hkeep hP'⟩,fun g e e2=>?_⟩;have hlt:=(l1.lt g e2).2;rcases hat with hat|hat;rw[hat]at e;exact h.ne g e e2;rw[hat]at e;cases e;omega
theorem LX.putL{H:Nat}{W2 wr wa w':World}{S L:LL}{vs vl v':Value}{a:Li}{va:Value}{cs:List Value}(h:LX H W2 wr S L vs vl)(hb:Below wr.heap.size wr wa)(hcs:wa.ownsRow W2.heap.size 24 1 vl L.length cs)(hrs:lS H wa (fun g=>vs.ownBlock≠some g/\vl.ownBlock≠some g) L cs)
  (ho:w'.ownsRow W2.heap.size 24 1 v' (L.length+1) (cs++[va])) (hg:wa.grownBy w' vl.ownBlock) (hat:v'.ownBlock=vl.ownBlock\/v'.ownBlock=some wa.heap.size) (ha:yg H wa a va) (hP:∀g,va.ownBlock=some g->vs.ownBlock≠some g/\vl.ownBlock≠some g):LX H W2 w' S (L++[a]) vs v':=by
 have h':=h.kept hb;obtain⟨ds,l1,l2⟩:=h'.s;have hbel:Below W2.heap.size wa w':=⟨hg.os,hg.tape,hg.output,hg.size,fun k hk=>hg.block k (uY hk h'.bel.size) (fun e=>by have:=(hcs.lt k e.symm).1;omega)⟩;have hP':∀g,vs.ownBlock≠some g/\vl.ownBlock≠some g->g<wa.heap.size->vs.ownBlock≠some g/\v'.ownBlock≠some g:=fun g hq hlt=>⟨hq.1,fun e=>by rcases hat with hat|hat;rw[hat]at e;exact hq.2 e;rw[hat]at e;cases e;omega⟩
 have hkeep:∀g,vs.ownBlock≠some g/\vl.ownBlock≠some g->g<wa.heap.size->w'.heap[g]?=wa.heap[g]?:=fun g hq hlt=>hg.block g hlt fun e=>hq.2 e.symm;refine⟨h'.bel.trans hbel,⟨ds,pj l1 fun g hgl hlt=>hg.block g hlt fun e=>h.ne g hgl e.symm,l2.kept hkeep hP'⟩,⟨cs++[va],by rw[ey];exact ho,(hrs.snoc ha hP).kept hkeep hP'⟩,fun g e e2=>?_⟩;have hlt:=(l1.lt g e).2;rcases hat with hat|hat;rw[hat]at e2;exact h.ne g e e2;rw[hat]at e2;cases e2;omega
theorem MG(W:World):(binOp BinOp.neq 24 (.slice none 0 0) (.slice none 0 0)).run Tryz.prog W = .ok (.bool false) W:=by kernel_rfl
theorem MF(W:World)(b:Nat)(n c:Nat):(binOp BinOp.neq 24 (.slice (some ⟨b,0,none⟩) n c) (.slice none 0 0)).run Tryz.prog W = .ok (.bool true) W:=by kernel_rfl
theorem Mk{H:Nat}{w:World}{P:Nat->Prop}{L:LL}{cs:List Value}(h:lS H w P L cs):∀u∈cs,u.oneCell'=true:=by intro u hu;obtain⟨j,hj,rfl⟩:=Dj hu;obtain⟨v,h1,hrow,_⟩:=h.2 j _ (c6 (by rw[<-h.1];exact hj));rw[c6 hj]at h1;have hv:cs[j]=v:=uR h1;rw[hv];clear hv h1;obtain⟨b,o,c,rfl,_⟩:=hrow;rfl
theorem LX.join{H base:Nat}{wr w':World}{S L:LL}{vs vl v':Value}{cs ds:List Value}(hs:lS H wr (fun g=>vs.ownBlock≠some g/\vl.ownBlock≠some g) S cs)(hl:lS H wr (fun g=>vs.ownBlock≠some g/\vl.ownBlock≠some g) L ds)
  (ho:w'.ownsRow base 24 1 v' (S.length+L.length) (cs++ds)) (hg:wr.grownBy w' vs.ownBlock) (hH:H<=base) (hpos:0<S.length+L.length):wK H w' (S++L) v':=by
 have hkeep:∀g,vs.ownBlock≠some g/\vl.ownBlock≠some g->g<wr.heap.size->w'.heap[g]?=wr.heap[g]?:=fun g hq hlt=>hg.block g hlt fun e=>hq.1 e.symm;rcases ho.2 with⟨_,h0⟩|⟨g,cap,cur,rfl,h2,h3,h4,h5,h6,h7⟩;omega
 .refine⟨g,0,cap,cs++ds,by rw[ey],by rw[ey];exact h4,by omega,fun j u hu=>?_,(hs.kept hkeep fun _ _ _=>trivial).append (hl.kept hkeep fun _ _ _=>trivial)⟩;have:=ho.cells (g:=g) rfl j u hu
  rwa [Go.Proofs.YtfjpfjnepdhnaaaGreat.R.add_plain rfl]at this
theorem rT{w:World}{ops:Array Oper}{rest:List Oper}{o:Oper}{a:Act}{Q:Exit->Act->World->Prop}(hgd:o.guard=none)(s x:Operand)(ho:o.op = .call ⟨.builtin .append,#[s,x],#[31,31]⟩)
  (base:Nat) (vi:Value) (n:Nat) (cs:List Value) (hs:a.eval s=vi) (hI:w.ownsRow base 24 1 vi n cs) (X m c:Nat) (off:Nat) (us:List Value) (hx:a.eval x = .slice (some ⟨X,off,none⟩) m c) (hm:us.length=m) (hX:∀(j:Nat) (u:Value),us[j]?=some u->w.cell? ⟨X,off+j,none⟩=some u) (h1:∀u∈us,u.oneCell'=true) (hl:n+m<=3000) (hbase:base<=w.heap.size)
  (K:∀v' w',w'.ownsRow base 24 1 v' (n+m) (cs++us)->w.grownBy w' vi.ownBlock->(v'.ownBlock=vi.ownBlock\/v'.ownBlock=some w.heap.size)->wpList Tryz.prog ops Q rest (a.put o.dst v') w'):wpList Tryz.prog ops Q (o::rest) a w:=by
 obtain⟨i0,hi,hz0,hz1,hz2⟩:=Of;refine wpList_append_own_at w hgd s x 31 ho base 24 i0 _ 1 24 Tryz.underlying31 hi hz0 hz1 hz2 rfl (by omega) vi n cs hs hI ⟨X,off,none⟩ m c us hx (by omega) (fun j u hu=>by rw[Go.Proofs.YtfjpfjnepdhnaaaGreat.R.add_plain rfl];exact hX j u hu) h1 (by unfold maxLen;omega) (by omega) hbase ?_;intro v' w' h1 h2 h3 h4;exact K v' w' h1 h2 h4
end
end Go.Proofs.YtfjpfjnepdhnaaaGreat

