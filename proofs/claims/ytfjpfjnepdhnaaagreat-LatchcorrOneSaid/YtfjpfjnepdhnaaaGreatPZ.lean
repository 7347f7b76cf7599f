/- . -/
import Derived.Test.YtfjpfjnepdhnaaaGreatPV
namespace Go.Proofs.YtfjpfjnepdhnaaaGreat
open Go Go.Proofs.YtfjpfjnepdhnaaaGreat.R
open Go.IntKind (wrap)
set_option linter.unusedVariables false
set_option linter.unusedSimpArgs false
section
theorem bA.loop{v:Int}(hv:gD v){L:Ll}{A:Li}(hn:L.length<=100000)(hr:∀c∈L,c.length<=140737488351232/\∀x∈c,in64 x)(hA:A.length<=140737488351232)(hA64:∀x∈A,in64 x):
  ∀(n i:Nat),i+n=L.length->bA.l0 v A L (L.length:Int) (i:Int)=some (if dM v (L.drop i)/\bZ v A [] then 0 else 8)
 |0,i,hi=>by
  rw[bA.l0_eq,cd,ab (by omega),lD (by omega),cU hA (by simp) hA64,aj,cn];have hnil:dM v []:=fun c hc=>by cases hc
  by_cases h:bZ v A [];rw[aa h,aa rfl,aa ⟨hnil,h⟩];rw[ab h,ab (by omega),ab (fun g=>h g.2)]
 |n+1,i,hi=>by
  have hlt:i<L.length:=by omega
  have hw:=wi i (by omega);obtain⟨h1,h2⟩:=hr _ (dW hlt);rw[bA.l0_eq,cd,aa (by omega),bu hlt,aj,dO h1 h2,aj,aa hv,cn,hw,bA.loop hv hn hr hA hA64 n (i+1) (by omega),drop_cons hlt];by_cases hc:kd v L[i];rw[aa hc,aa rfl];by_cases h3:dM v (L.drop (i+1))/\bZ v A [];rw[aa h3,aa];refine⟨fun d hd=>?_,h3.2⟩;rcases eR.1 hd with h|h;rw[h];exact hc;exact h3.1 d h;rw[ab h3,ab (fun h=>h3 ⟨fun d hd=>h.1 d (jI _ hd),h.2⟩)];rw[ab hc,ab (by omega),ab (fun h=>hc (h.1 _ (ix ..)))]
theorem kh{v b:Int}{L:Ll}{A:Li}(hn:L.length<=100000)(hr:∀c∈L,c.length<=140737488351232/\∀x∈c,in64 x)(hA:A.length<=140737488351232)(hA64:∀x∈A,in64 x):
  bA v L A b=some (if v<0\/v>4000\/b<0\/b>100000 then 2 else if L.length>20000 then 4 else if dM v L/\bZ v A [] then 0 else 8):=by
 rw[bA.eq,cd];by_cases h1:v<0;rw[aa h1,aa (.inl h1)];rw[ab h1,cd];by_cases h2:v>4000;rw[aa h2,aa (.inr (.inl h2))];rw[ab h2,cd];by_cases h3:b<0;rw[aa h3,aa (.inr (.inr (.inl h3)))];rw[ab h3,cd];by_cases h4:b>100000;rw[aa h4,aa (.inr (.inr (.inr h4)))];rw[ab h4,cd,ab (by omega:¬(v<0\/v>4000\/b<0\/b>100000))];by_cases h5:L.length>20000;rw[aa (by omega),aa h5];have:=bA.loop (v:=v) (by omega) hn hr hA hA64 L.length 0 (by omega);rw[show((0:Nat):Int)=0 from rfl,jH]at this;rw[ab (by omega),ab h5,this]
section
variable {v:Int} {A H:Li} {L log:Ll} {t s:Li} {k:Int}
abbrev Ju:=Int×Li×Li×Ll×(Int×Li×Li)×Bool×Lb×Li×Ll×Int
abbrev jj(v:Int)(A H:Li)(L:Ll)(t s:Li)(bo:Bool)(m:Lb)(co:Li)(log:Ll)(k:Int):Ju:=(v,(A,(H,(L,((v,(t,s)),(bo,(m,(co,(log,k)))))))))
theorem fG{bo:Bool}{m:Lb}{co c:Li}(h1:L.length<20000)(h2:log.length<=20000):aY v A H L v t s bo m co log k c=some (0,jj v A H (L++[c]) t s bo m co (log++[c]) k):=by rw[aY.eq,ce,ab (by omega),bH (by simp;omega),aj,bH (by simp;omega),aj]
theorem lp.loop(h:bZ v t s){b:Bool}{m:Lb}{co o1:Li}:∀(n i:Nat),i+n=s.length ->
  aK.l0 (s.length:Int) (i:Int) v A v b k log co m s t L H ((List.range i).map (dc t s)) o1=aK.l0 (s.length:Int) (s.length:Int) v A v b k log co m s t L H (bP t s) o1
 |0,i,hi=>by
  have:i=s.length:=by omega
  subst this;rfl
 |n+1,i,hi=>by
  have hlt:i<s.length:=by omega
  have hv:=h.vars;have hsh:=h.short;have hw:=wi i (by omega);obtain⟨j,hj,h1,e1⟩:=zw h hlt;rw[<-lp.loop h n (i+1) (by omega),aK.l0_eq (x17:=(i:Int)),cd,aa (by omega),bu hlt,aj,jm,c6 hlt,aj,h1,bu hj,aj,jm,
   c6 hj,aj,bH (by simp;omega),aj,hw,NZ,Il,List.map_singleton,e1]
theorem fJ(h:bZ v t s)(hL:dM v L)(hn:L.length<20000)(hlog:log.length<=20000)(hk:0<=k/\k<=1000000)(hc:c8 v L (bP t s)=true){c:Li}(hce:c=cj v L (bP t s))(hcok:kd v c)
  {t' s':Li} (hb:c≠[]->ek v t s c=((v,(t',s')),0)) :
  aK v A H L v t s false [] [] log k=if c=[] then some (false,0,jj v A H (L++[[]]) t s false [] [] (log++[[]]) k) else some (true,0,jj v A H (L++[c]) t' s' false [] [] (log++[c]) (k+1)):=by
 have hv:=h.vars;have hsh:=h.short;have ht64:∀l∈t,in64 l:=fun l hl=>by have:=h.lits l hl;omega
 have g:=lp.loop (A:=A) (H:=H) (L:=L) (log:=log) (k:=k) (b:=false) (m:=[]) (co:=[]) (o1:=[]) h s.length 0 (by omega);rw[show((0:Nat):Int)=0 from rfl]at g;have e0:aK v A H L v t s false [] [] log k=_:=(aK.eq ..).trans g;have hD:=gv h;have hdl:(bP t s).length=s.length:=by simp[bP]
 rw[e0,aK.l0_eq,cd,ab (by omega),cd];by_cases hs:s.length=0;have hd0:bP t s=[]:=tS (by omega);have hc0:c=[]:=by rw[hce,hd0];exact yR
 rw[ab (by omega),ce,aa (by simp),fG hn hlog,aj,aa hc0];rw[aa (by omega),dh hD hL (by omega) hc,aj,<-hce];dsimp only;rw[cn,aa rfl,ce];by_cases hc0:c=[];rw[aa (by rw[hc0];rfl),aa hc0,fG hn hlog,aj];have hcl:¬(c.length:Int)=0:=fun e=>hc0 (tS (by omega));have hc64:∀l∈c,in64 l:=fun l hl=>by have:=hcok.1 l hl;omega
 have hcs:=hcok.short hv;have hw:wrap .i64 (k+1)=k+1:=by rw[wr]<;>omega
 rw[ab hcl,ab hc0,jT (by omega) (by omega) ht64 (by omega) hc64,aj,hb hc0];dsimp only;rw[cn,aa rfl,hw,fG hn hlog,aj]
def vE(v:Int)(A H:Li)(L:Ll)(t s:Li)(bo:Bool)(m:Lb)(co:Li)(log:Ll)(k:Int):Int×Ju:=
 match fp A t with
 |some l=>if cH t l=0 then(2,jj v A H L t s bo m co log k) else(0,jj v A H L (t++[l]) (s++[(t.length:Int)]) bo m co log k)
 |none=>if lf v t=0 then(1,jj v A H L t s bo m co log k) else(0,jj v A H L (t++[2*lf v t+1]) (s++[(t.length:Int)]) bo m co log k)
theorem xx{l:Int}{r:Li}:fp (l::r) t=if cH t l=1 then fp r t else some l:=by unfold fp;rw[List.find?_cons];by_cases h:cH t l=1;rw[aa h];simp[h];rw[ab h];simp[h]
theorem pB.loop(h:bZ v t s)(hA:∀a∈A,isLit v a)(hn:A.length<=100000){bo:Bool}{m:Lb}{co:Li}:∀(n i:Nat),i+n=A.length ->
  aR.l0 0 A (A.length:Int) (i:Int) v A v bo k log co m s t L (cM v.toNat)=some (match fp (A.drop i) t with
   |some l=>if cH t l=0 then(2,jj v A (cM v.toNat) L t s bo m co log k) else(0,jj v A (cM v.toNat) L (t++[l]) (s++[(t.length:Int)]) bo m co log k)
   |none=>if lf v t=0 then(1,jj v A (cM v.toNat) L t s bo m co log k) else(0,jj v A (cM v.toNat) L (t++[2*lf v t+1]) (s++[(t.length:Int)]) bo m co log k))
 |0,i,hi=>by
  have hv:=h.vars;have hsh:=h.short;have ht64:∀l∈t,in64 l:=fun l hl=>by have:=h.lits l hl;omega
  have hw0:fp (A.drop i) t=none:=by rw[lD (by omega)];rfl
  rw[aR.l0_eq,cd,ab (by omega),ce,aa rfl,lj (by omega) (by omega) ht64,aj,hw0];dsimp only;rcases yL h with⟨h1,a,b,h2⟩|⟨h1,r,h2⟩;rw[h2,aa h1];dsimp only;rw[cn,ab (by omega)];rw[h2,ab h1];have hb:=(gO (v:=v) (by omega) t).resolve_left fun h=>h1 h.1;have hw:wrap .i64 (wrap .i64 (2*lf v t)+1)=2*lf v t+1:=by rw[wr (x:=2*lf v t) (by omega) (by omega),wr (by omega) (by omega)]
  dsimp only;rw[cn,aa rfl,bH (by simp;omega),aj,hw,bH (by simp;omega),aj]
 |n+1,i,hi=>by
  have hlt:i<A.length:=by omega
  have hv:=h.vars;have hsh:=h.short;have hl:=hA _ (dW hlt);have ht64:∀l∈t,in64 l:=fun l hl=>by have:=h.lits l hl;omega
  have hw:=wi i (by omega);have hval:EF v t s A[i]=(cH t A[i],0):=by unfold EF;rw[aa h,aa hl]
  rw[aR.l0_eq,cd,aa (by omega),bu hlt,aj,pN (by omega) (by omega) ht64 (by omega),aj,hval];dsimp only;rw[ce,ce,ce,drop_cons hlt,xx];rcases cQ t A[i]with h0|h0|h0;rw[aa h0,ab (by omega)];dsimp only;rw[aa h0];rw[ab (by omega),ab (by omega),aa h0,hw,pB.loop h hA hn n (i+1) (by omega)];rw[ab (by omega),aa h0,ab (by omega),ab (by omega),bH (by simp;omega),aj,bH (by simp;omega),aj];dsimp only;rw[ab (by omega)]
theorem fH(h:bZ v t s)(hA:∀a∈A,isLit v a)(hn:A.length<=100000){bo:Bool}{m:Lb}{co:Li}:
  aR v A (cM v.toNat) L v t s bo m co log k=some (vE v A (cM v.toNat) L t s bo m co log k):=by
 have:=pB.loop (L:=L) (log:=log) (k:=k) (bo:=bo) (m:=m) (co:=co) h hA hn A.length 0 (by omega);rw[jH]at this;rw[aR.eq];exact this
theorem mo(h:bZ v t s)(hA:∀a∈A,isLit v a)(hn:A.length<=100000){bo:Bool}{m:Lb}{co:Li}{l:Int}(hw:fp A t=some l)(h0:cH t l=0):
  aR v A (cM v.toNat) L v t s bo m co log k=some (2,jj v A (cM v.toNat) L t s bo m co log k):=by
 rw[fH h hA hn];unfold vE;rw[hw];dsimp only;rw[aa h0]
theorem mr(h:bZ v t s)(hA:∀a∈A,isLit v a)(hn:A.length<=100000){bo:Bool}{m:Lb}{co:Li}{l:Int}(hw:fp A t=some l)(h0:¬cH t l=0):
  aR v A (cM v.toNat) L v t s bo m co log k=some (0,jj v A (cM v.toNat) L (t++[l]) (s++[(t.length:Int)]) bo m co log k):=by
 rw[fH h hA hn];unfold vE;rw[hw];dsimp only;rw[ab h0]
theorem mq(h:bZ v t s)(hA:∀a∈A,isLit v a)(hn:A.length<=100000){bo:Bool}{m:Lb}{co:Li}(hw:fp A t=none)(h0:lf v t=0):
  aR v A (cM v.toNat) L v t s bo m co log k=some (1,jj v A (cM v.toNat) L t s bo m co log k):=by
 rw[fH h hA hn];unfold vE;rw[hw];dsimp only;rw[aa h0]
theorem mn(h:bZ v t s)(hA:∀a∈A,isLit v a)(hn:A.length<=100000){bo:Bool}{m:Lb}{co:Li}(hw:fp A t=none)(h0:¬lf v t=0):
  aR v A (cM v.toNat) L v t s bo m co log k=some (0,jj v A (cM v.toNat) L (t++[2*lf v t+1]) (s++[(t.length:Int)]) bo m co log k):=by
 rw[fH h hA hn];unfold vE;rw[hw];dsimp only;rw[ab h0]
theorem lq(hA:bZ v A [])(hL:dM v L)(hn:L.length<20000)(hlog:log.length<=20000)(hc:c8 v L A=true){m:Lb}{co:Li}{bo:Bool}:
  aW v A H L v t s bo m co log k 2=some (0,jj v A H (L++[cj v L A]) t s bo m co (log++[cj v L A]) k):=by
 rw[aW.eq,ce,aa rfl,dh hA hL (by omega) hc,aj];dsimp only;rw[cn,aa rfl,fG hn hlog,aj]
theorem nS.loop{T:Li}(h:bZ v T s){bo:Bool}{co:Li}:∀(n i:Nat),i+n=T.length ->
  aW.l0 (T.length:Int) (i:Int) v A v bo k log co [] s T L H (mQ v (T.take i))=some (0,jj v A H L T s bo (mQ v T) co log k)
 |0,i,hi=>by rw[aW.l0_eq,cd,ab (by omega),BQ (by omega)]
 |n+1,i,hi=>by
  have hlt:i<T.length:=by omega
  have hv:=h.vars;have hsh:=h.short;have hl:=h.lits _ (dW hlt);have hw:=wi i (by omega);have hw2:wrap .i64 (wrap .i64 (Int.tdiv T[i] 2)-1)=T[i]/2-1:=by rw[td (by omega) (by omega),wr (by omega) (by omega)]
  have hlen:(mQ v (T.take i)).length=v.toNat:=iK;have hidx:(T[i]/2-1).toNat<(mQ v (T.take i)).length:=by omega
  have e1:(T[i]%2==0)=decide (T[i]%2=0):=by rw[BR];simp
  rw[aW.l0_eq,cd,aa (by omega),bu hlt,aj,jm,c6 hlt,aj,hw2,MS (by omega),c6 hidx,aj,aj,hw,tm (by omega),e1,<-vF h hlt,
   nS.loop h n (i+1) (by omega)]
theorem lr{T:Li}(h:bZ v T s):aW v A H L v T s false [] [] log k 1=some (0,jj v A H L T s true (mQ v T) [] log k):=by
 have hv:=h.vars;have g:=nS.loop (A:=A) (H:=H) (L:=L) (log:=log) (k:=k) (bo:=true) (co:=[]) h T.length 0 (by omega);have h0:mQ v (T.take 0)=List.replicate v.toNat false:=by refine Mq (by simp[iK]) fun j h1 h2=>?_;simp[mQ]
 rw[h0,show((0:Nat):Int)=0 from rfl]at g;rw[aW.eq,ce,ab (by omega),kV (by omega) (by omega),aj,aa rfl,g]
end
theorem ai.loop1{v b:Int}{A:Li}(hA:bZ v A []){L0:Ll}{b0:Bool}{b1:Int}{o2:Lb}{o3:Li}{o4:Ll}(hlim:L0.length+2^v.toNat<=20000):∀(n:Nat) {t s:Li} {log:Ll},jc v A L0 t s log->ef v t s<n->(log.length:Int)<=b ->
  ai.l1 b b0 b1 v A v false (log.length:Int) o2 o3 o4 (cM v.toNat) (L0++log) t s [] [] log=some (oP v b (gY v A n (L0++log) t s log))
 |0,t,s,log,h,hn,hb=>by omega
 |n+1,t,s,log,h,hn,hb=>by
  have hv:=h.a.vars;have hsh:=h.a.short;have hAs:=hA.short;have hP:=h.prop.1;have htop:log.length+1<=2^v.toNat:=by have:=h.mes;have:=iJ h.a;omega
  have hll:(L0++log).length<20000:=by rw[ey];omega
  have hlog:log.length<=20000:=by rw[ey]at hll;omega
  have ht64:∀l∈t,in64 l:=fun l hl=>by have:=h.a.lits l hl;omega
  have hr:∀c∈L0++log,c.length<=140737488351232/\∀x∈c,in64 x:=fun c hc=>⟨by have:=(h.ok c hc).len hv;omega,fun x hx=>jr hv ((h.ok c hc).1 x hx)⟩;have hrun:pG v t s (L0++log)=((v,(af (L0++log) (v+1).toNat t).1,s),(af (L0++log) (v+1).toNat t).2,0):=by unfold pG;rw[aa h.a,ab (by omega),aa h.ok]
  rw[ai.l1_eq,gp (by omega) (by omega) ht64 (by omega) hr,aj,hrun];dsimp only;rw[cn,aa rfl,cd];unfold gY;by_cases hat:0<=(af (L0++log) (v+1).toNat t).2;rw[aa hat,aa hat];obtain⟨f1,f2,f3⟩:=h.fail hat rfl;have hcf:=h.conf hat;by_cases hc:cj v (L0++log) (bP (af (L0++log) (v+1).toNat t).1 s)=[];rw[fJ (t':=[]) (s':=[]) hP.a h.ok hll hlog ⟨by omega,by omega⟩ hcf rfl f1 (fun hne=>absurd hc hne),aa hc,aa hc,aj];dsimp only;rw[ce,aa rfl,cd,ab (by omega),cn,aa rfl,iA,cf];unfold oP nU;rw[aa hb];rfl;obtain⟨t',s',e1,e2,e3⟩:=f3 hc;rw[fJ hP.a h.ok hll hlog ⟨by omega,by omega⟩ hcf rfl f1 (fun _=>e1),ab hc,ab hc,aj,e1];dsimp only;rw[ce,aa rfl,cd];by_cases hov:(log.length:Int)+1>b;rw[aa hov,cn,ab (by omega)];unfold oP;have:=jk (v:=v) (A:=A) n (L0++log++[cj v (L0++log) (bP (af (L0++log) (v+1).toNat t).1 s)]) t' s' (log++[cj v (L0++log) (bP (af (L0++log) (v+1).toNat t).1 s)]);rw[ey (bs:=[_]),gC]at this;rw[ab (by omega)];rfl;rw[ab hov,cn,aa rfl,iA,ct];have:=ai.loop1 (b:=b) (b0:=b0) (b1:=b1) (o2:=o2) (o3:=o3) (o4:=o4) hA hlim n e2 (by omega) (by rw[ey,gC];omega);rw[<-List.append_assoc,ey (bs:=[_]),gC,OH]at this;exact this
  .rw[ab hat,ab hat];cases hw:fp A (af (L0++log) (v+1).toNat t).1 with
   |some l=>
    obtain⟨w1,w2⟩:=mw hw;dsimp only;by_cases h0:cH (af (L0++log) (v+1).toNat t).1 l=0;rw[aa h0,mo hP.a hA.lits (by omega) hw h0,aj];have hcf:=h.under hA rfl w1 h0;dsimp only;rw[cd,aa (by omega),lq hA h.ok hll hlog hcf,aj];dsimp only;rw[cn,aa rfl];unfold oP nU;rw[aa hb];rfl;rw[ab h0,mr hP.a hA.lits (by omega) hw h0,aj];have h2:cH (af (L0++log) (v+1).toNat t).1 l=2:=by rcases cQ (af (L0++log) (v+1).toNat t).1 l with h|h|h<;>omega
    obtain⟨e1,e2⟩:=h.choose rfl (hA.lits l w1) h2 (.inl w1);dsimp only;rw[cd,ab (by omega)];exact ai.loop1 hA hlim n e1 (by omega) hb
   |none=>
    have hall:=mz hP.a hw;dsimp only;by_cases hl:lf v (af (L0++log) (v+1).toNat t).1=0;rw[aa hl,mq hP.a hA.lits (by omega) hw hl,aj];dsimp only;rw[cd,aa (by omega),lr hP.a,aj];dsimp only;rw[cn,aa rfl];unfold oP nU;rw[aa hb];rfl;rw[ab hl,mn hP.a hA.lits (by omega) hw hl,aj];obtain⟨x1,x2,x3,x4⟩:=(gO (v:=v) (by omega) (af (L0++log) (v+1).toNat t).1).resolve_left fun h=>hl h.1;have hnone:cH (af (L0++log) (v+1).toNat t).1 (2*lf v (af (L0++log) (v+1).toNat t).1+1)=2:=by rw[dN]at x3 ⊢;intro a ha he;exact x3 a ha (by omega)
    obtain⟨e1,e2⟩:=h.choose rfl (x:=2*lf v (af (L0++log) (v+1).toNat t).1+1) (by omega) hnone (.inr ⟨_,rfl,x1,x2,x4,hall⟩);dsimp only;rw[cd,ab (by omega)];exact ai.loop1 hA hlim n e1 (by omega) hb
theorem ai.loop0{v b:Int}(hv:gD v){b0 b1_3:Bool}{b0_1 b1 b1_2 b1_4:Int}{b1_1:Li}{o2 o9:Lb}{o3 o7 o8 o10:Li}{o4 o6 o11:Ll}:∀(n k:Nat),(k:Int)+n=v ->
  ai.l0 v b ((k+1:Nat):Int) b0 b0_1 b1 b1_1 b1_2 b1_3 b1_4 o2 o3 o4 (cM k) o6 o7 o8 o9 o10 o11=ai.l1 b b0 b0_1 b1 b1_1 b1_2 b1_3 b1_4 o2 o3 o4 (cM v.toNat) o6 o7 o8 o9 o10 o11
 |0,k,hk=>by
  have e:v.toNat=k:=by omega
  rw[ai.l0_eq,cd,ab (by omega),e]
 |n+1,k,hk=>by
  have hl:((cM k).length:Int)=k:=by rw[jB]
  rw[ai.l0_eq,cd,aa (by omega),bH (by simp;omega),aj,vk (by omega),<-ai.loop0 hv n (k+1) (by omega),tP];rfl
theorem oK{v b:Int}{A:Li}(hA:bZ v A [])(hb:0<=b/\b<=100000){L:Ll}(hL:dM v L)(hlim:L.length+2^v.toNat<=20000):ai v L A b=some (oP v b (gJ v A L)):=by have hv:=hA.vars;have hN:L.length<=20000:=kz (LO _ _) hlim;have g0:=ai.loop0 (b:=b) (b0:=false) (b0_1:=0) (b1:=v) (b1_1:=A) (b1_2:=v) (b1_3:=false) (b1_4:=0) (o2:=[]) (o3:=[]) (o4:=[]) (o6:=L) (o7:=[]) (o8:=[]) (o9:=[]) (o10:=[]) (o11:=[]) hv v.toNat 0 (by omega);have g1:=ai.loop1 (b:=b) hA (b0:=false) (b1:=0) (o2:=[]) (o3:=[]) (o4:=[]) hlim (ef v [] []+1) (Cv hv hL) (Kq _) (by simpa using hb.1);rw[s7]at g1;rw[ai.eq,dU (by omega),aj];exact g0.trans g1
theorem bj.loop{v:Int}{L:Ll}{A:Li}(hn:A.length<=100000):∀(n i:Nat),i+n=A.length ->
  bj.l0 v L A (A.length:Int) (i:Int) (dF (A.take i))=bj.l0 v L A (A.length:Int) (A.length:Int) (dF A)
 |0,i,hi=>by
  have:i=A.length:=by omega
  subst this;rw[xM]
 |n+1,i,hi=>by
  have hlt:i<A.length:=by omega
  have hw:=wi i (by omega);have hl:(dF (A.take i)).length<=100000:=by unfold dF;rw[pH,lE];omega
  rw[<-bj.loop hn n (i+1) (by omega),bj.l0_eq,cd,aa (by omega),bu hlt,aj,bH (by simp only[gC];omega),aj,hw,BP,c6 hlt];unfold dF;rw[Il];rfl
theorem rG{v:Int}(hv:gD v){L:Ll}{A:Li}(hL:dM v L)(hA:∀a∈A,isLit v a)(hlim:A.length+L.length+2^v.toNat<=20000)(hbig:2^v.toNat<=100001):bj v L A=some (Cf v L A,0):=by
 have hAL:A.length+L.length<=20000:=kz (LO _ _) hlim;have hL2:L.length+2^v.toNat<=20000:=kz (by rw[NG];exact LN _ _) hlim;have h2v:2^v.toNat<=20000:=kz (LN _ _) hlim;have g:=bj.loop (v:=v) (L:=L) (A:=A) (by omega) A.length 0 (by omega);rw[show((0:Nat):Int)=0 from rfl,JI]at g;have hul:(dF A).length=A.length:=by simp[dF]
 have hok:=yF hL hA;have hb:=(ET hv hok).bnd;rw[bj.eq];refine Eq.trans g ?_;rw[bj.l0_eq,cd,ab (by omega),bH (by omega),aj,tY hv (by omega) hok (by rw[ey,hul];exact hlim),aj];unfold oP;rw[aa (by omega)];dsimp only;rw[ce,aa rfl];rfl
theorem aX.loop{v:Int}(hv:gD v){L:Ll}{A:Li}(hA:bZ v A [])(hL:dM v L)(hlim:A.length+L.length+2^v.toNat<=20000)(hbig:2^v.toNat<=100001):∀(n i:Nat) {o:Li},i+n=A.length->o.Sublist A->(∀x∈A.drop i,x∈o) ->
  aX.l0 v L A (A.length:Int) (i:Int) o=some (coreC v L (A.drop i) o,0)
 |0,i,o,hi,ho,hm=>by rw[aX.l0_eq,cd,ab (by omega),lD (by omega)];rfl
 |n+1,i,o,hi,ho,hm=>by
  have hAL:A.length+L.length<=20000:=kz (LO _ _) hlim;have hlt:i<A.length:=by omega
  have hs:=hA.short;have hol:=ho.length_le;have hw:=wi i (by omega);rw[drop_cons hlt]at hm ⊢;have hd:A[i]∈o:=hm _ (ix ..);obtain⟨k,e1,e2,e3⟩:=dG.found (s:=o) (x:=A[i]) (by omega) o.length 0 (by omega) (by rw[jH];exact hd);rw[show((0:Nat):Int)=0 from rfl]at e1;rw[JI,jH,Ac]at e3;have hwk:=wi k (by omega);have hcut:tG o (k:Int) ((k+1:Nat):Int)=some (rm A[i] o):=by unfold tG mR;rw[aa ⟨by omega,by omega,by omega,by omega⟩,jm,jm,e3]
  have hsub:(rm A[i] o).Sublist A:=(qv _ o).trans ho;have hsl:=hsub.length_le;have hnd:=hA.nodup;rw[<-List.take_append_drop i A,D3,drop_cons hlt,zI]at hnd;rw[aX.l0_eq,cd,aa (by omega),bu hlt,aj,ax.eq,e1,aj,dU (by omega),aj,hwk,hcut,aj,rG hv hL (fun a ha=>hA.lits a (hsub.subset ha)) (kz (OK (OK hsl _) _) hlim) hbig,aj,hw];dsimp only;rw[cn,aa rfl];unfold coreC;cases hcf:Cf v L (rm A[i] o) with
  |true=>rw[ct];exact aX.loop hv hA hL hlim hbig n (i+1) (by omega) hsub (fun x hx=>ud (hm x (jI _ hx)) (fun e=>hnd.2.1.1 (e▸hx)))
  |false=>rw[cf];exact aX.loop hv hA hL hlim hbig n (i+1) (by omega) ho (fun x hx=>hm x (jI _ hx))
theorem rH{v:Int}{L:Ll}{A:Li}(hA:bZ v A [])(hL:dM v L)(hlim:A.length+L.length+2^v.toNat<=20000)(hbig:2^v.toNat<=100001):aX v L A=some (coreC v L A A,0):=by have hAL:A.length+L.length<=20000:=kz (LO _ _) hlim;have hL2:L.length+2^v.toNat<=20000:=kz (by rw[NG];exact LN _ _) hlim;have h2v:2^v.toNat<=20000:=kz (LN _ _) hlim;have g:=aX.loop hA.vars hA hL hlim hbig A.length 0 (o:=A) (by omega) (Nz _) (fun x hx=>by rwa [jH]at hx);rw[show((0:Nat):Int)=0 from rfl,jH]at g;rw[aX.eq,dU (by omega),aj,g]
section
variable {v b:Int} {A:Li} {L:Ll}
theorem zZ(hv:gD v)(hL:dM v L):∀c∈L,c.length<=140737488351232/\∀x∈c,in64 x:=fun c hc=>⟨by have:=(hL c hc).len hv;omega,fun x hx=>jr hv ((hL c hc).1 x hx)⟩
theorem kg(hA:bZ v A [])(hb:0<=b/\b<=100000)(hL:dM v L)(hn:L.length<=20000):bA v L A b=some 0:=by have hv:=hA.vars;have hs:=hA.short;rw[kh (by omega) (zZ hv hL) (by omega) (fun x hx=>jr hv (hA.lits x hx)),ab (by omega),ab (by omega),aa ⟨hL,hA⟩]
theorem sF(hA:bZ v A [])(hb:0<=b/\b<=100000)(hL:dM v L)(hlim:A.length+L.length+2^v.toNat<=20000):cS v L A b=some (Ih v b A L):=by
 have hAL:A.length+L.length<=20000:=kz (LO _ _) hlim;have hL2:L.length+2^v.toNat<=20000:=kz (by rw[NG];exact LN _ _) hlim;have h2v:2^v.toNat<=20000:=kz (LN _ _) hlim;have hR:=vn hA hL;rw[cS.eq,kg hA hb hL (by omega),aj,cn,aa rfl,oK hA hb hL hL2,aj];unfold oP Ih;by_cases hc:((gJ v A L).2.2.2:Int)<=b
 .rw[aa hc,aa hc];dsimp only;rw[cn,aa rfl];unfold nU Jn;cases hs:(gJ v A L).1 with
  |true=>rfl
  |false=>rw[cf,rH hA hL hlim (by omega),aj];rfl
 rw[ab hc,ab hc];dsimp only;rw[cn,ab (by omega)]
theorem yf(hA:bZ v A [])(h12:v<=12)(hL:dM v L)(hn:A.length+L.length<=10000)(hb:((gJ v A L).2.2.2:Int)<=b/\b<=100000):cS v L A b=some (Jn v A L,0):=by have hp:=zT hA.vars.1 h12;rw[sF hA ⟨by omega,hb.2⟩ hL (by omega)];unfold Ih;rw[aa hb.1]
end
end
section
def mI(v b:Int)(m:Nat)(r:Bool×Li×Ll×Nat):PN:=if(r.2.2.2:Int)<=b/\m+r.2.2.1.length<=20000 then(nU v r,0) else(Jo,55)
theorem kM{v:Int}{A:Li}:∀(n:Nat) (L:Ll) (t s:Li) (log:Ll),log.length<=(gY v A n L t s log).2.2.1.length
 |0,L,t,s,log=>dD _
 |n+1,L,t,s,log=>by unfold gY;split;split;simp;refine kz ?_ (kM n _ _ _ _);simp;split;split;simp;exact kM n _ _ _ _;split;exact dD _;exact kM n _ _ _ _
theorem ES{v:Int}:∀(n:Nat) (L:Ll) (t s:Li) (log:Ll),log.length<=(xH v n L t s log).2.2.1.length:=fun n L t s log=>by rw[<-qm];exact kM n L t s log
section
variable {v k:Int} {A H:Li} {L log:Ll} {t s:Li}
theorem eF{bo:Bool}{m:Lb}{co c:Li}(h:L.length=20000):aY v A H L v t s bo m co log k c=some (55,jj v A H L t s bo m co log k):=by rw[aY.eq,ce,aa (by omega)]
theorem oN(hA:bZ v A [])(hL:dM v L)(hn:L.length=20000)(hc:c8 v L A=true){m:Lb}{co:Li}{bo:Bool}:
  aW v A H L v t s bo m co log k 2=some (55,jj v A H L t s bo m co log k):=by
 rw[aW.eq,ce,aa rfl,dh hA hL (by omega) hc,aj];dsimp only;rw[cn,aa rfl,eF hn,aj]
theorem oM(h:bZ v t s)(hL:dM v L)(hn:L.length=20000)(hlog:log.length<=20000)(hk:0<=k/\k<=1000000)(hc:c8 v L (bP t s)=true){c:Li}(hce:c=cj v L (bP t s))(hcok:kd v c)
  (hb:c≠[]->∃t' s',ek v t s c=((v,(t',s')),0)):∃(on:Bool) (st:Ju),aK v A H L v t s false [] [] log k=some (on,55,st):=by
 have hv:=h.vars;have hsh:=h.short;have ht64:∀l∈t,in64 l:=fun l hl=>by have:=h.lits l hl;omega
 have g:=lp.loop (A:=A) (H:=H) (L:=L) (log:=log) (k:=k) (b:=false) (m:=[]) (co:=[]) (o1:=[]) h s.length 0 (by omega);rw[show((0:Nat):Int)=0 from rfl]at g;have e0:aK v A H L v t s false [] [] log k=_:=(aK.eq ..).trans g;have hD:=gv h;have hdl:(bP t s).length=s.length:=by simp[bP]
 rw[e0,aK.l0_eq,cd,ab (by omega),cd];by_cases hs:s.length=0;rw[ab (by omega),ce,aa (by simp),eF hn,aj];exact⟨_,_,rfl⟩;rw[aa (by omega),dh hD hL (by omega) hc,aj,<-hce];dsimp only;rw[cn,aa rfl,ce];by_cases hc0:c=[];rw[aa (by rw[hc0];rfl),eF hn,aj];exact⟨_,_,rfl⟩;have hcl:¬(c.length:Int)=0:=fun e=>hc0 (tS (by omega));have hc64:∀l∈c,in64 l:=fun l hl=>by have:=hcok.1 l hl;omega
 have hcs:=hcok.short hv;have hw:wrap .i64 (k+1)=k+1:=by rw[wr]<;>omega
 obtain⟨t',s',e1⟩:=hb hc0;rw[ab hcl,jT (by omega) (by omega) ht64 (by omega) hc64,aj,e1];dsimp only;rw[cn,aa rfl,hw,eF hn,aj];exact⟨_,_,rfl⟩
theorem pE(h:bZ v t s)(hL:dM v L)(hn:L.length=20000)(hc:c8 v L (bP t s)=true):∃(on:Bool) (st:Int×Ll×(Int×Li×Li)×Bool×Lb×Li×Ll×Int),aO v L v t s false [] [] log k=some (on,55,st):=by
 have hv:=h.vars;have hsh:=h.short;have g:=mA.loop (L:=L) (log:=log) (k:=k) (b:=false) (m:=[]) (co:=[]) h s.length 0 (by omega);rw[show((0:Nat):Int)=0 from rfl]at g;have e0:aO v L v t s false [] [] log k=_:=(aO.eq ..).trans g;have hD:=gv h;have hdl:(bP t s).length=s.length:=by simp[bP]
 rw[e0,aO.l0_eq,cd,ab (by omega),cd];by_cases hs:s.length=0;rw[ab (by omega),ce,aa (by omega)];exact⟨_,_,rfl⟩;rw[aa (by omega),dh hD hL (by omega) hc,aj];dsimp only;rw[cn,aa rfl,ce,aa (by omega)];exact⟨_,_,rfl⟩
end
theorem ai.loopL{v b:Int}{A:Li}(hA:bZ v A []){L0:Ll}{b0:Bool}{b1:Int}{o2:Lb}{o3:Li}{o4:Ll}:∀(n:Nat) {t s:Li} {log:Ll},jc v A L0 t s log->ef v t s<n->(log.length:Int)<=b->L0.length+log.length<=20000 ->
  ai.l1 b b0 b1 v A v false (log.length:Int) o2 o3 o4 (cM v.toNat) (L0++log) t s [] [] log=some (mI v b L0.length (gY v A n (L0++log) t s log))
 |0,t,s,log,h,hn,hb,hm=>by omega
 |n+1,t,s,log,h,hn,hb,hm=>by
  have hv:=h.a.vars;have hsh:=h.a.short;have hAs:=hA.short;have hP:=h.prop.1;have hlen:(L0++log).length=L0.length+log.length:=ey;have hlog:log.length<=20000:=by omega
  have ht64:∀l∈t,in64 l:=fun l hl=>by have:=h.a.lits l hl;omega
  have hr:∀c∈L0++log,c.length<=140737488351232/\∀x∈c,in64 x:=fun c hc=>⟨by have:=(h.ok c hc).len hv;omega,fun x hx=>jr hv ((h.ok c hc).1 x hx)⟩;have hrun:pG v t s (L0++log)=((v,(af (L0++log) (v+1).toNat t).1,s),(af (L0++log) (v+1).toNat t).2,0):=by unfold pG;rw[aa h.a,ab (by omega),aa h.ok]
  rw[ai.l1_eq,gp (by omega) (by omega) ht64 (by omega) hr,aj,hrun];dsimp only;rw[cn,aa rfl,cd];unfold gY;by_cases hat:0<=(af (L0++log) (v+1).toNat t).2;rw[aa hat,aa hat];obtain⟨f1,f2,f3⟩:=h.fail hat rfl;have hcf:=h.conf hat;have hlg:∀(n:Nat) (t' s':Li),log.length+1<=(gY v A n (L0++log++[cj v (L0++log) (bP (af (L0++log) (v+1).toNat t).1 s)]) t' s' (log++[cj v (L0++log) (bP (af (L0++log) (v+1).toNat t).1 s)])).2.2.1.length:=fun n t' s'=>by have:=kM (v:=v) (A:=A) n (L0++log++[cj v (L0++log) (bP (af (L0++log) (v+1).toNat t).1 s)]) t' s' (log++[cj v (L0++log) (bP (af (L0++log) (v+1).toNat t).1 s)]);rw[ey (bs:=[_]),gC]at this;exact this
  by_cases hfull:(L0++log).length=20000;obtain⟨on,st,e⟩:=oM (A:=A) (H:=cM v.toNat) (log:=log) (k:=(log.length:Int)) hP.a h.ok hfull hlog ⟨by omega,by omega⟩ hcf rfl f1 (fun hne=>by obtain⟨t',s',e1,_⟩:=f3 hne;exact⟨t',s',e1⟩);rw[e,aj];dsimp only;rw[ce,ab (by omega),cn,ab (by omega)];unfold mI;by_cases hc:cj v (L0++log) (bP (af (L0++log) (v+1).toNat t).1 s)=[];rw[aa hc,ab (by simp only[ey,gC];omega)];rfl;rw[ab hc,ab (by have:=hlg n (ek v (af (L0++log) (v+1).toNat t).1 s (cj v (L0++log) (bP (af (L0++log) (v+1).toNat t).1 s))).1.2.1 (ek v (af (L0++log) (v+1).toNat t).1 s (cj v (L0++log) (bP (af (L0++log) (v+1).toNat t).1 s))).1.2.2;omega)];rfl;have hll:(L0++log).length<20000:=by omega
  by_cases hc:cj v (L0++log) (bP (af (L0++log) (v+1).toNat t).1 s)=[];rw[fJ (t':=[]) (s':=[]) hP.a h.ok hll hlog ⟨by omega,by omega⟩ hcf rfl f1 (fun hne=>absurd hc hne),aa hc,aa hc,aj];dsimp only;rw[ce,aa rfl,cd,ab (by omega),cn,aa rfl,iA,cf];unfold mI nU;rw[aa ⟨hb,by simp only[ey,gC];omega⟩];rfl;obtain⟨t',s',e1,e2,e3⟩:=f3 hc;rw[fJ hP.a h.ok hll hlog ⟨by omega,by omega⟩ hcf rfl f1 (fun _=>e1),ab hc,ab hc,aj,e1];dsimp only;rw[ce,aa rfl,cd];by_cases hov:(log.length:Int)+1>b;rw[aa hov,cn,ab (by omega)];unfold mI;have:=jk (v:=v) (A:=A) n (L0++log++[cj v (L0++log) (bP (af (L0++log) (v+1).toNat t).1 s)]) t' s' (log++[cj v (L0++log) (bP (af (L0++log) (v+1).toNat t).1 s)]);rw[ey (bs:=[_]),gC]at this;rw[ab (by omega)];rfl;rw[ab hov,cn,aa rfl,iA,ct];have:=ai.loopL (b:=b) (b0:=b0) (b1:=b1) (o2:=o2) (o3:=o3) (o4:=o4) hA n e2 (by omega) (by rw[ey,gC];omega) (by rw[ey,gC];omega);rw[<-List.append_assoc,ey (bs:=[_]),gC,OH]at this;exact this
  .rw[ab hat,ab hat];cases hw:fp A (af (L0++log) (v+1).toNat t).1 with
   |some l=>
    obtain⟨w1,w2⟩:=mw hw;dsimp only;by_cases h0:cH (af (L0++log) (v+1).toNat t).1 l=0;rw[aa h0,mo hP.a hA.lits (by omega) hw h0,aj];have hcf:=h.under hA rfl w1 h0;dsimp only;rw[cd,aa (by omega)];by_cases hfull:(L0++log).length=20000;rw[oN hA h.ok hfull hcf,aj];dsimp only;rw[cn,ab (by omega)];unfold mI;rw[ab (by simp only[ey,gC];omega)];rfl;have hll:(L0++log).length<20000:=by omega
    rw[lq hA h.ok hll hlog hcf,aj];dsimp only;rw[cn,aa rfl];unfold mI nU;rw[aa ⟨hb,by simp only[ey,gC];omega⟩];rfl;rw[ab h0,mr hP.a hA.lits (by omega) hw h0,aj];have h2:cH (af (L0++log) (v+1).toNat t).1 l=2:=by rcases cQ (af (L0++log) (v+1).toNat t).1 l with h|h|h<;>omega
    obtain⟨e1,e2⟩:=h.choose rfl (hA.lits l w1) h2 (.inl w1);dsimp only;rw[cd,ab (by omega)];exact ai.loopL hA n e1 (by omega) hb hm
   |none=>
    have hall:=mz hP.a hw;dsimp only;by_cases hl:lf v (af (L0++log) (v+1).toNat t).1=0;rw[aa hl,mq hP.a hA.lits (by omega) hw hl,aj];dsimp only;rw[cd,aa (by omega),lr hP.a,aj];dsimp only;rw[cn,aa rfl];unfold mI nU;rw[aa ⟨hb,hm⟩];rfl;rw[ab hl,mn hP.a hA.lits (by omega) hw hl,aj];obtain⟨x1,x2,x3,x4⟩:=(gO (v:=v) (by omega) (af (L0++log) (v+1).toNat t).1).resolve_left fun h=>hl h.1;have hnone:cH (af (L0++log) (v+1).toNat t).1 (2*lf v (af (L0++log) (v+1).toNat t).1+1)=2:=by rw[dN]at x3 ⊢;intro a ha he;exact x3 a ha (by omega)
    obtain⟨e1,e2⟩:=h.choose rfl (x:=2*lf v (af (L0++log) (v+1).toNat t).1+1) (by omega) hnone (.inr ⟨_,rfl,x1,x2,x4,hall⟩);dsimp only;rw[cd,ab (by omega)];exact ai.loopL hA n e1 (by omega) hb hm
theorem aS.loopL{v b:Int}{L0:Ll}{b0:Bool}{b1:Int}{o2:Lb}{o3:Li}{o4:Ll}:∀(n:Nat) {t s:Li} {log:Ll},Inv v L0 t s log->ef v t s<n->(log.length:Int)<=b->L0.length+log.length<=20000 ->
  aS.l1 b (cM v.toNat) b0 b1 v v false (log.length:Int) o2 o3 o4 (L0++log) t s [] [] log=some (mI v b L0.length (xH v n (L0++log) t s log))
 |0,t,s,log,h,hn,hb,hm=>by omega
 |n+1,t,s,log,h,hn,hb,hm=>by
  have hv:=h.a.vars;have hsh:=h.a.short;have hP:=h.prop.1;have hlen:(L0++log).length=L0.length+log.length:=ey;have ht64:∀l∈t,in64 l:=fun l hl=>by have:=h.a.lits l hl;omega
  have hr:∀c∈L0++log,c.length<=140737488351232/\∀x∈c,in64 x:=fun c hc=>⟨by have:=(h.ok c hc).len hv;omega,fun x hx=>jr hv ((h.ok c hc).1 x hx)⟩;have hrun:pG v t s (L0++log)=((v,(af (L0++log) (v+1).toNat t).1,s),(af (L0++log) (v+1).toNat t).2,0):=by unfold pG;rw[aa h.a,ab (by omega),aa h.ok]
  rw[aS.l1_eq,gp (by omega) (by omega) ht64 (by omega) hr,aj,hrun];dsimp only;rw[cn,aa rfl,cd];unfold xH;by_cases hat:0<=(af (L0++log) (v+1).toNat t).2;rw[aa hat,aa hat];obtain⟨f1,f2,f3⟩:=h.fail hat rfl;have hcf:=h.conf hat;have hlg:∀(n:Nat) (t' s':Li),log.length+1<=(xH v n (L0++log++[cj v (L0++log) (bP (af (L0++log) (v+1).toNat t).1 s)]) t' s' (log++[cj v (L0++log) (bP (af (L0++log) (v+1).toNat t).1 s)])).2.2.1.length:=fun n t' s'=>by have:=ES (v:=v) n (L0++log++[cj v (L0++log) (bP (af (L0++log) (v+1).toNat t).1 s)]) t' s' (log++[cj v (L0++log) (bP (af (L0++log) (v+1).toNat t).1 s)]);rw[ey (bs:=[_]),gC]at this;exact this
  by_cases hfull:(L0++log).length=20000;obtain⟨on,st,e⟩:=pE (log:=log) (k:=(log.length:Int)) hP.a h.ok hfull hcf;rw[e,aj];dsimp only;rw[ce,ab (by omega),cn,ab (by omega)];unfold mI;by_cases hc:cj v (L0++log) (bP (af (L0++log) (v+1).toNat t).1 s)=[];rw[aa hc,ab (by simp only[ey,gC];omega)];rfl;rw[ab hc,ab (by have:=hlg n (ek v (af (L0++log) (v+1).toNat t).1 s (cj v (L0++log) (bP (af (L0++log) (v+1).toNat t).1 s))).1.2.1 (ek v (af (L0++log) (v+1).toNat t).1 s (cj v (L0++log) (bP (af (L0++log) (v+1).toNat t).1 s))).1.2.2;omega)];rfl;have hll:(L0++log).length<20000:=by omega
  by_cases hc:cj v (L0++log) (bP (af (L0++log) (v+1).toNat t).1 s)=[];rw[gj (t':=[]) (s':=[]) hP.a h.ok hll (by rw[ey]at hll;omega) ⟨by omega,by omega⟩ hcf rfl f1 (fun hne=>absurd hc hne),aa hc,aa hc,aj];dsimp only;rw[ce,aa rfl,cd,ab (by omega),cn,aa rfl,iA,cf];unfold mI nU;rw[aa ⟨hb,by simp only[ey,gC];omega⟩];rfl;obtain⟨t',s',e1,e2,e3⟩:=f3 hc;rw[gj hP.a h.ok hll (by rw[ey]at hll;omega) ⟨by omega,by omega⟩ hcf rfl f1 (fun _=>e1),ab hc,ab hc,aj,e1];dsimp only;rw[ce,aa rfl,cd];by_cases hov:(log.length:Int)+1>b;rw[aa hov,cn,ab (by omega)];unfold mI;have:=mY (v:=v) n (L0++log++[cj v (L0++log) (bP (af (L0++log) (v+1).toNat t).1 s)]) t' s' (log++[cj v (L0++log) (bP (af (L0++log) (v+1).toNat t).1 s)]);rw[ey (bs:=[_]),gC]at this;rw[ab (by omega)];rfl;rw[ab hov,cn,aa rfl,iA,ct];have:=aS.loopL (b:=b) (b0:=b0) (b1:=b1) (o2:=o2) (o3:=o3) (o4:=o4) n e2 (by omega) (by rw[ey,gC];omega) (by rw[ey,gC];omega);rw[<-List.append_assoc,ey (bs:=[_]),gC,OH]at this;exact this;rw[ab hat,ab hat,kc hP.a];by_cases hl:lf v (af (L0++log) (v+1).toNat t).1=0;rw[aa hl,aa hl,aj];dsimp only;rw[iA,cf,kK hP.a,aj];unfold mI nU;rw[aa ⟨hb,hm⟩];rfl;obtain⟨e1,e2⟩:=h.choose hl;rw[ab hl,ab hl,aj];dsimp only;rw[iA,ct];exact aS.loopL n e1 (by omega) hb hm
section
variable {v b:Int} {A:Li} {L:Ll}
theorem nR(hA:bZ v A [])(hb:0<=b/\b<=100000)(hL:dM v L)(hn:L.length<=20000):ai v L A b=some (mI v b L.length (gJ v A L)):=by have hv:=hA.vars;have g0:=ai.loop0 (b:=b) (b0:=false) (b0_1:=0) (b1:=v) (b1_1:=A) (b1_2:=v) (b1_3:=false) (b1_4:=0) (o2:=[]) (o3:=[]) (o4:=[]) (o6:=L) (o7:=[]) (o8:=[]) (o9:=[]) (o10:=[]) (o11:=[]) hv v.toNat 0 (by omega);have g1:=ai.loopL (b:=b) hA (b0:=false) (b1:=0) (o2:=[]) (o3:=[]) (o4:=[]) (ef v [] []+1) (Cv hv hL) (Kq _) (by simpa using hb.1) (by simpa using hn);rw[s7]at g1;rw[ai.eq,dU (by omega),aj];exact g0.trans g1
theorem sj(hv:gD v)(hb:0<=b/\b<=100000)(hL:dM v L)(hn:L.length<=20000):aS v L b=some (mI v b L.length (EU v L)):=by have hr:∀c∈L,c.length<=140737488351232/\∀x∈c,in64 x:=fun c hc=>⟨by have:=(hL c hc).len hv;omega,fun x hx=>jr hv ((hL c hc).1 x hx)⟩;have g0:=aS.loop0 (b:=b) (b0:=false) (b1:=0) (b2:=v) (b3:=v) (b1_2:=false) (b4:=0) (o3:=[]) (o4:=[]) (o5:=[]) (o6:=L) (o7:=[]) (o11:=[]) (o8:=[]) (o9:=[]) (o10:=[]) hv v.toNat 0 (by omega);have g1:=aS.loopL (b:=b) (b0:=false) (b1:=0) (o2:=[]) (o3:=[]) (o4:=[]) (ef v [] []+1) (IL hv hL) (Kq _) (by simpa using hb.1) (by simpa using hn);rw[s7]at g1;rw[aS.eq,cd,ab (by omega),cd,ab (by omega),cd,ab (by omega),cd,ab (by omega),kL hv (by omega) hr,aj,ab (by omega),aa hL,cn,aa rfl,dU (by omega),aj];exact g0.trans g1
theorem pM(hv:gD v)(hL:dM v L)(hA:∀a∈A,isLit v a)(hn:A.length+L.length<=20000):∃r:Bool×Int,bj v L A=some r:=by
 have g:=bj.loop (v:=v) (L:=L) (A:=A) (by omega) A.length 0 (by omega);rw[show((0:Nat):Int)=0 from rfl,JI,show dF []=[] from rfl]at g;have hul:(dF A).length=A.length:=by simp[dF]
 have hok:=yF hL hA;rw[bj.eq,g,bj.l0_eq,cd,ab (by omega),bH (by omega),aj,sj hv (by omega) hok (by rw[ey,hul];exact hn),aj,ce];split;exact⟨_,rfl⟩;exact⟨_,rfl⟩
theorem aX.loopL(hA:bZ v A [])(hL:dM v L)(hlim:A.length+L.length<=20000):∀(n i:Nat) {o:Li},i+n=A.length->o.Sublist A->(∀x∈A.drop i,x∈o) ->
  ∃r:Li×Int,aX.l0 v L A (A.length:Int) (i:Int) o=some r
 |0,i,o,hi,ho,hm=>by rw[aX.l0_eq,cd,ab (by omega)];exact⟨_,rfl⟩
 |n+1,i,o,hi,ho,hm=>by
  have hv:=hA.vars;have hlt:i<A.length:=by omega
  have hs:=hA.short;have hol:=ho.length_le;have hw:=wi i (by omega);rw[drop_cons hlt]at hm;have hd:A[i]∈o:=hm _ (ix ..);obtain⟨k,e1,e2,e3⟩:=dG.found (s:=o) (x:=A[i]) (by omega) o.length 0 (by omega) (by rw[jH];exact hd);rw[show((0:Nat):Int)=0 from rfl]at e1;rw[JI,jH,Ac]at e3;have hwk:=wi k (by omega);have hcut:tG o (k:Int) ((k+1:Nat):Int)=some (rm A[i] o):=by unfold tG mR;rw[aa ⟨by omega,by omega,by omega,by omega⟩,jm,jm,e3]
  have hsub:(rm A[i] o).Sublist A:=(qv _ o).trans ho;have hsl:=hsub.length_le;have hnd:=hA.nodup;rw[<-List.take_append_drop i A,D3,drop_cons hlt,zI]at hnd;obtain⟨r,hr⟩:=pM hv hL (fun a ha=>hA.lits a (hsub.subset ha)) (A:=rm A[i] o) (by omega);rw[aX.l0_eq,cd,aa (by omega),bu hlt,aj,ax.eq,e1,aj,dU (by omega),aj,hwk,hcut,aj,hr,aj,hw,cn];split
  .obtain⟨c,e⟩:=r;cases c with
   |true=>rw[ct];exact aX.loopL hA hL hlim n (i+1) (by omega) hsub (fun x hx=>ud (hm x (jI _ hx)) (fun e=>hnd.2.1.1 (e▸hx)))
   |false=>rw[cf];exact aX.loopL hA hL hlim n (i+1) (by omega) ho (fun x hx=>hm x (jI _ hx))
  exact⟨_,rfl⟩
theorem rJ(hv:gD v)(hb:0<=b/\b<=100000)(hL:dM v L)(hn:A.length+L.length<=20000)(hA64:∀x∈A,in64 x):∃(x:Jw) (e:Int),cS v L A b=some (x,e) /\
  (e=0->bZ v A []/\(x.1=false->∀W,¬eH (dF A++L) W)/\(x.1=true->∃W,W.length=v.toNat/\eH (dF A++L) W)):=by
 by_cases hA:bZ v A []
 .have hR:=vn hA hL;rw[cS.eq,kg hA hb hL (by omega),aj,cn,aa rfl,nR hA hb hL (by omega),aj];unfold mI;split
  .dsimp only;rw[cn,aa rfl];unfold nU;cases hs:(gJ v A L).1 with
   |true=>exact⟨_,_,rfl,fun _=>⟨hA,(fun h=>by cases h),fun _=>by have:=(hR.sat hs).1;exact⟨_,this.1,this.2.1⟩⟩⟩
   |false=>obtain⟨r,hr⟩:=aX.loopL hA hL hn A.length 0 (o:=A) (by omega) (Nz _) (fun x hx=>by rwa [jH]at hx);rw[show((0:Nat):Int)=0 from rfl]at hr;rw[cf,aX.eq,dU (by omega),aj,hr,aj,cn];split;exact⟨_,_,rfl,fun _=>⟨hA,fun _=>hR.none hv hA.lits hs,fun h=>by cases h⟩⟩;rename_i hne;exact⟨_,_,rfl,fun h=>absurd h hne⟩
  dsimp only;rw[cn,ab (by omega)];exact⟨_,_,rfl,fun h=>by omega⟩
 have:=kh (v:=v) (b:=b) (L:=L) (A:=A) (by omega) (fun c hc=>⟨by have:=(hL c hc).len hv;omega,fun x hx=>jr hv ((hL c hc).1 x hx)⟩) (by omega) hA64;rw[ab (by omega),ab (by omega),ab (fun h=>hA h.2)]at this;rw[cS.eq,this,aj,cn,ab (by omega)];exact⟨_,_,rfl,fun h=>by omega⟩
end
end
section
abbrev TP:Ty:=.pair (.int .i64) (.int .i64)
abbrev TC:Ty:=.pair (.int .i64) (.pair (.list TP) (.pair (.list TP) (.pair TL TL)))
structure cG(I:Int)(Ls As:Lp)(Bs Cs:Li):Prop where
 i:in64 I
 ls:Ls.length<=140737488351232/\∀x∈Ls,in64 x.1/\in64 x.2
 as_:As.length<=140737488351232/\∀x∈As,in64 x.1/\in64 x.2
 bs:Bs.length<=140737488351232/\∀x∈Bs,in64 x
 cs:Cs.length<=140737488351232/\∀x∈Cs,in64 x
theorem Qw{c:Int×Lp×Lp×Li×Li}(h:Cd TC c):cG c.1 c.2.1 c.2.2.1 c.2.2.2.1 c.2.2.2.2 where
 i:=zK h.1
 ls:=⟨h.2.1.1,fun x hx=>⟨zK (h.2.1.2 x hx).1,zK (h.2.1.2 x hx).2⟩⟩
 as_:=⟨h.2.2.1.1,fun x hx=>⟨zK (h.2.2.1.2 x hx).1,zK (h.2.2.1.2 x hx).2⟩⟩
 bs:=MB h.2.2.2.1
 cs:=MB h.2.2.2.2
abbrev db(n l:Int):Prop:=0<=l/\l/2<=n
abbrev xR(n:Int)(x:Int×Int):Prop:=db n x.1/\0<=x.2/\x.2<=2
def uj:Int->Lp->Bool
 |_,[]=>true
 |n,x::r=>decide (0<=x.2)&&decide (x.2<=x.1)&&decide (x.1/2<n)&&uj (n+1) r
def few(I:Int)(Ls As:Lp)(Bs Cs:Li):Prop:=I<=1000/\I+Ls.length+As.length<=1000/\Bs.length<=100/\Cs.length<=100
instance (I:Int)(Ls As:Lp)(Bs Cs:Li):Decidable (few I Ls As Bs Cs):=by unfold few;infer_instance
def size(I:Int)(Ls As:Lp):Int:=I+Ls.length+As.length
def y9(I:Int)(Ls As:Lp)(Bs Cs:Li):Prop:=
 (∀l∈Bs,db (size I Ls As) l)/\(∀l∈Cs,db (size I Ls As) l)/\(∀x∈Ls,xR (size I Ls As) x)/\uj (1+I+Ls.length) As=true
instance (I:Int)(Ls As:Lp)(Bs Cs:Li):Decidable (y9 I Ls As Bs Cs):=by unfold y9;infer_instance
def aP(I:Int)(Ls As:Lp)(Bs Cs:Li):Int:=if I<0 then 8 else if few I Ls As Bs Cs then(if y9 I Ls As Bs Cs then 0 else 8) else 4
section
variable {I:Int} {Ls As:Lp} {Bs Cs:Li}
theorem uM{α:Type}{l:List α}{p:α->Bool}{q:α->Prop}(h:∀x∈l,(p x=false↔q x)):l.any p=false↔∀x∈l,q x:=by rw[HR];exact⟨fun g x hx=>(h x hx).1 (by simpa using g x hx),fun g x hx=>by simpa using(h x hx).2 (g x hx)⟩
theorem Mg(x:Int):gT .i64 x 1=x/2:=by unfold gT;rw[show min (Int.toNat 1) IntKind.i64.bits=1 from rfl,Ph _ (by decide)];rfl
theorem uh{n x:Int}:rO (n+1) x=false↔db n x:=by unfold rO;rw[Mg,Ms,Dv,Dv];omega
theorem zJ{n:Int}{x:Int×Int}:mS (n+1) x=false↔xR n x:=by unfold mS;rw[Ms,Ms,uh,Dv,Dv];omega
theorem bE.loop{s0 s1 s3:Int}(h:As.length<=140737488351232/\∀x∈As,in64 x.1/\in64 x.2){n:Int}(hn:0<=n/\n<=1000000)(hA:n+As.length<=1000000):∀(m i:Nat),i+m=As.length ->
  bE.l0 As (As.length:Int) (i:Int) [s0,s1,n,s3]=some (if uj (n+i) (As.drop i)=true then 0 else 8)
 |0,i,hi=>by rw[bE.l0_eq,cd,ab (by omega),lD (by omega)];rfl
 |m+1,i,hi=>by
  have hlt:i<As.length:=by omega
  obtain⟨h1,h2⟩:=h.2 _ (dW hlt);have hw:=wi i (by omega);have hw2:wrap .i64 (2*wrap .i64 (n+(i:Int)))=2*(n+(i:Int)):=by rw[wr (x:=n+(i:Int)) (by omega) (by omega),wr (by omega) (by omega)]
  rw[bE.l0_eq,cd,aa (by omega),bu hlt,aj,cd,drop_cons hlt];unfold uj;by_cases c1:(As[i]).2<0;rw[aa c1,pd (by omega:¬0<=(As[i]).2)];rfl;rw[ab c1,cd,kp (by omega:0<=(As[i]).2),yj];by_cases c2:(As[i]).1<(As[i]).2;rw[aa c2,pd (by omega:¬(As[i]).2<=(As[i]).1)];rfl;rw[ab c2,kp (by omega:(As[i]).2<=(As[i]).1),yj,show aD [s0,s1,n,s3] 2=some n from rfl,aj,show([s0,s1,n,s3]:Li)[Int.toNat 2]?=some n from rfl,aj,hw2,cd];by_cases c3:(As[i]).1>=2*(n+(i:Int));rw[aa c3,pd (by omega:¬(As[i]).1/2<n+(i:Int))];rfl;rw[ab c3,kp (by omega:(As[i]).1/2<n+(i:Int)),yj,hw,bE.loop h hn hA m (i+1) (by omega),show n+((i+1:Nat):Int)=n+(i:Int)+1 from by omega]
theorem dA(h:cG I Ls As Bs Cs):bE I Ls As Bs Cs=some (aP I Ls As Bs Cs):=by
 have h1:=h.ls.1;have h2:=h.as_.1;have h3:=h.bs.1;have h4:=h.cs.1;unfold aP;rw[bE.eq,cd];by_cases c1:I<0;rw[aa c1,aa c1];rw[ab c1,ab c1,cd];by_cases c2:I>1000;rw[aa c2,ab (fun g=>by have:=g.1;omega)];have w1:wrap .i64 (1+I)=1+I:=by rw[wr]<;>omega
 have w2:wrap .i64 (1+I+(Ls.length:Int))=1+I+(Ls.length:Int):=by rw[wr]<;>omega
 have w3:wrap .i64 (1+I+(Ls.length:Int)+(As.length:Int))=size I Ls As+1:=by unfold size;rw[wr]<;>omega
 have w4:wrap .i64 (size I Ls As+1-1)=size I Ls As:=by unfold size;rw[wr]<;>omega
 rw[ab c2,w1,w2,w3,show aD [1,1+I,1+I+(Ls.length:Int),size I Ls As+1] 3=some (size I Ls As+1) from rfl,aj,w4,cd];by_cases c3:size I Ls As>1000;rw[aa c3,ab (fun g=>by have:=g.2.1;unfold size at c3;omega)];rw[ab c3,cd];by_cases c4:(if(Bs.length:Int)<(Cs.length:Int) then(Cs.length:Int) else(Bs.length:Int))>100;rw[aa c4,ab (fun g=>by have:=g.2.2;split at c4<;>omega)];have c4':Bs.length<=100/\Cs.length<=100:=by split at c4<;>omega
 have c3':I+Ls.length+As.length<=1000:=by unfold size at c3;omega
 have hf:few I Ls As Bs Cs:=⟨by omega,by unfold size at c3;omega,c4'.1,c4'.2⟩;rw[ab c4,aa hf,cd,aa (by unfold mR;omega)];have e1:Bs.any (rO (size I Ls As+1))=false↔∀l∈Bs,db (size I Ls As) l:=uM fun x _=>uh;have e2:Cs.any (rO (size I Ls As+1))=false↔∀l∈Cs,db (size I Ls As) l:=uM fun x _=>uh;have e3:Ls.any (mS (size I Ls As+1))=false↔∀l∈Ls,xR (size I Ls As) l:=uM fun x _=>zJ;cases q1:Bs.any (rO (size I Ls As+1)) with
 |true=>rw[ct,ab (fun g=>by rw[e1.2 g.1]at q1;cases q1)]
 |false=>
  rw[cf,cd,aa (by unfold mR;omega)];cases q2:Cs.any (rO (size I Ls As+1)) with
  |true=>rw[ct,ab (fun g=>by rw[e2.2 g.2.1]at q2;cases q2)]
  |false=>
   rw[cf,cd,aa (by unfold mR;omega)];cases q3:Ls.any (mS (size I Ls As+1)) with
   |true=>rw[ct,ab (fun g=>by rw[e3.2 g.2.2.1]at q3;cases q3)]
   |false=>have:=bE.loop (s0:=1) (s1:=1+I) (s3:=size I Ls As+1) h.as_ (n:=1+I+(Ls.length:Int)) (by unfold size at c3;omega) (by unfold size at c3;omega) As.length 0 (by omega);rw[show((0:Nat):Int)=0 from rfl,jH,OE]at this;rw[cf,this];by_cases q4:uj (1+I+(Ls.length:Int)) As=true;rw[aa q4,aa ⟨e1.1 q1,e2.1 q2,e3.1 q3,q4⟩];rw[ab q4,ab (fun g=>q4 g.2.2.2)]
theorem aN(h:aP I Ls As Bs Cs=0):0<=I/\few I Ls As Bs Cs/\y9 I Ls As Bs Cs:=by unfold aP at h;split at h;omega;split at h;split at h;exact⟨by omega,by assumption,by assumption⟩;omega;omega
theorem fj(h:cG I Ls As Bs Cs):gh I Ls As Bs Cs=some (if aP I Ls As Bs Cs=0 then(size I Ls As,0) else(0,aP I Ls As Bs Cs)):=by
 rw[gh.eq,dA h,aj,cn];by_cases c:aP I Ls As Bs Cs=0;obtain⟨k1,k2,_⟩:=aN c;obtain⟨k2,k3,_⟩:=k2;have w1:wrap .i64 (1+I)=1+I:=by rw[wr]<;>omega
 have w2:wrap .i64 (1+I+(Ls.length:Int))=1+I+(Ls.length:Int):=by rw[wr]<;>omega
 have w3:wrap .i64 (1+I+(Ls.length:Int)+(As.length:Int))=size I Ls As+1:=by unfold size;rw[wr]<;>omega
 have w4:wrap .i64 (size I Ls As+1-1)=size I Ls As:=by unfold size;rw[wr]<;>omega
 rw[aa c,aa c,w1,w2,w3,show aD [1,1+I,1+I+(Ls.length:Int),size I Ls As+1] 3=some (size I Ls As+1) from rfl,aj,w4];rw[ab c,ab c]
theorem sm(h:cG I Ls As Bs Cs)(hI:0<=I/\I<=1000):cm I Ls As Bs Cs=some (size I Ls As):=by have h1:=h.ls.1;have h2:=h.as_.1;unfold size;rw[cm.eq,wr (x:=I+(Ls.length:Int)) (by omega) (by omega),wr (by omega) (by omega)]
theorem Pa{l:Int}(h0:0<=l)(h:in64 l):wrap .i64 (Int.tdiv l 2)=l/2:=by rw[td h0 (by unfold in64 at h;omega)]
theorem kR.loop{n:Int}{l:Li}(hn:l.length<=140737488351232)(hr:∀x∈l,in64 x):∀(m i:Nat),i+m=l.length->au.l0 l n (i:Int)=some (decide (∀x∈l.drop i,db n x))
 |0,i,hi=>by rw[au.l0_eq,cd,ab (by omega),lD (by omega)];simp
 |m+1,i,hi=>by
  have hlt:i<l.length:=by omega
  have hx:=hr _ (dW hlt);have hw:=wi i (by omega);rw[au.l0_eq,cd,aa (by omega),bu hlt,aj,cd,drop_cons hlt];by_cases c1:l[i]<0;rw[aa c1,pd];intro g;have:=(g _ (ix ..)).1;omega;rw[ab c1,aj,Pa (by omega) hx,cd];by_cases c2:l[i]/2>n;rw[aa c2,pd];intro g;have:=(g _ (ix ..)).2;omega;rw[ab c2,hw,kR.loop hn hr m (i+1) (by omega)];congr 1;rw[Dr,HP];exact⟨fun g=>⟨⟨by omega,by omega⟩,g⟩,fun g=>g.2⟩
theorem fC{n:Int}{l:Li}(hn:l.length<=140737488351232)(hr:∀x∈l,in64 x):au l n=some (decide (∀x∈l,db n x)):=by
 rw[au.eq];have:=kR.loop (n:=n) hn hr l.length 0 (by omega)
 rwa [jH]at this
theorem gu.loop1(h:cG I Ls As Bs Cs)(hI:0<=I/\I<=1000):∀(m i:Nat),i+m=As.length ->
  ah.l1 (i:Int) I Ls As Bs Cs=some (if uj (1+I+Ls.length+i) (As.drop i)=true then 0 else 8)
 |0,i,hi=>by rw[ah.l1_eq,cd,ab (by omega),lD (by omega)];rfl
 |m+1,i,hi=>by
  have hlt:i<As.length:=by omega
  have hl1:=h.ls.1;have hl2:=h.as_.1;obtain⟨h1,h2⟩:=h.as_.2 _ (dW hlt);have hw:=wi i (by omega);have hw2:wrap .i64 (wrap .i64 (I+(Ls.length:Int))+(i:Int))=I+Ls.length+i:=by rw[wr (x:=I+(Ls.length:Int)) (by omega) (by omega),wr (by omega) (by omega)]
  rw[ah.l1_eq,cd,aa (by omega),bu hlt,aj,cd,drop_cons hlt];unfold uj;by_cases c1:(As[i]).2<0;rw[aa c1,pd (by omega:¬0<=(As[i]).2)];rfl;rw[ab c1,cd,kp (by omega:0<=(As[i]).2),yj];by_cases c2:(As[i]).1<(As[i]).2;rw[aa c2,pd (by omega:¬(As[i]).2<=(As[i]).1)];rfl;rw[ab c2,kp (by omega:(As[i]).2<=(As[i]).1),yj,Pa (by omega) h1,hw2,cd];by_cases c3:(As[i]).1/2>I+Ls.length+i;rw[aa c3,pd (by omega:¬(As[i]).1/2<1+I+(Ls.length:Int)+(i:Int))];rfl;rw[ab c3,kp (by omega:(As[i]).1/2<1+I+(Ls.length:Int)+(i:Int)),yj,hw,gu.loop1 h hI m (i+1) (by omega),show 1+I+(Ls.length:Int)+((i+1:Nat):Int)=1+I+(Ls.length:Int)+(i:Int)+1 from by omega]
theorem gu.loop0(h:cG I Ls As Bs Cs)(hI:0<=I/\I<=1000){n:Int}:∀(m i:Nat),i+m=Ls.length ->
  ah.l0 n (i:Int) I Ls As Bs Cs=some (if(∀x∈Ls.drop i,xR n x)/\uj (1+I+Ls.length) As=true then 0 else 8)
 |0,i,hi=>by have:=gu.loop1 h hI As.length 0 (by omega);rw[show((0:Nat):Int)=0 from rfl,jH,OE]at this;rw[ah.l0_eq,cd,ab (by omega),lD (by omega),this];simp
 |m+1,i,hi=>by
  have hlt:i<Ls.length:=by omega
  obtain⟨h1,h2⟩:=h.ls.2 _ (dW hlt);have hl:=h.ls.1;have hw:=wi i (by omega);rw[ah.l0_eq,cd,aa (by omega),bu hlt,aj,fC (by simp) (fun x hx=>by rw[fQ]at hx;subst hx;exact h1),aj,iA,cd,drop_cons hlt];by_cases c1:db n (Ls[i]).1;rw[aa (by simpa using c1),aj,cd];by_cases c2:(Ls[i]).2<0;rw[aa c2,ab];intro g;have:=(g.1 _ (ix ..)).2.1;omega;rw[ab c2,aj,cd];by_cases c3:(Ls[i]).2>2;rw[aa c3,ab];intro g;have:=(g.1 _ (ix ..)).2.2;omega;rw[ab c3,hw,gu.loop0 h hI m (i+1) (by omega)];congr 1;by_cases c4:(∀x∈Ls.drop (i+1),xR n x)/\uj (1+I+Ls.length) As=true;rw[aa c4,aa ⟨HP.2 ⟨⟨c1,by omega,by omega⟩,c4.1⟩,c4.2⟩];rw[ab c4,ab (fun g=>c4 ⟨(HP.1 g.1).2,g.2⟩)];rw[ab (by simpa using c1),ab];intro g;exact c1 (g.1 _ (ix ..)).1
theorem hU(h:cG I Ls As Bs Cs):ah I Ls As Bs Cs=some (aP I Ls As Bs Cs):=by unfold aP;rw[ah.eq,cd];by_cases c1:I<0;rw[aa c1,aa c1];rw[ab c1,ab c1,cd];by_cases c2:I>1000;rw[aa c2,ab (fun g=>by have:=g.1;omega)];rw[ab c2,sm h ⟨by omega,by omega⟩,aj,cd];by_cases c3:size I Ls As>1000;rw[aa c3,ab (fun g=>by have:=g.2.1;unfold size at c3;omega)];rw[ab c3,cd];by_cases c4:(Bs.length:Int)>100;rw[aa c4,ab (fun g=>by have:=g.2.2.1;omega)];rw[ab c4,cd];by_cases c5:(Cs.length:Int)>100;rw[aa c5,ab (fun g=>by have:=g.2.2.2;omega)];have hf:few I Ls As Bs Cs:=⟨by omega,by unfold size at c3;omega,by omega,by omega⟩;rw[ab c5,aa hf,aj,fC h.bs.1 h.bs.2,aj,iA,cd];by_cases q1:∀x∈Bs,db (size I Ls As) x;rw[aa q1,fC h.cs.1 h.cs.2,aj,iA,cd];by_cases q2:∀x∈Cs,db (size I Ls As) x;have:=gu.loop0 h ⟨by omega,by omega⟩ (n:=size I Ls As) Ls.length 0 (by omega);rw[show((0:Nat):Int)=0 from rfl,jH]at this;rw[aa q2,this];congr 1;by_cases q3:(∀x∈Ls,xR (size I Ls As) x)/\uj (1+I+Ls.length) As=true;rw[aa q3,aa ⟨q1,q2,q3.1,q3.2⟩];rw[ab q3,ab (fun g=>q3 g.2.2)];rw[ab q2,ab (fun g=>q2 g.2.1)];rw[ab q1,ab (fun g=>q1 g.1)]
theorem qx(h:cG I Ls As Bs Cs):cC I Ls As Bs Cs=some (decide (Ls.length>60\/As.length>120\/Bs.length>110\/Cs.length>110\/(40<I/\I<996))):=by rw[cC.eq,cd];by_cases c1:(Ls.length:Int)>60;rw[aa c1,kp (by omega)];rw[ab c1,cd];by_cases c2:(As.length:Int)>120;rw[aa c2,kp (by omega)];rw[ab c2,cd];by_cases c3:(Bs.length:Int)>110;rw[aa c3,kp (by omega)];rw[ab c3,cd];by_cases c4:(Cs.length:Int)>110;rw[aa c4,kp (by omega)];rw[ab c4,cd];by_cases c5:I>40;rw[aa c5];congr 1;rw[Dr];omega;rw[ab c5,pd (by omega)]
end
end
section
theorem sU{n:Nat}(h:(n:Int)<=9223372036854775806):(BitVec.ofInt 64 (n:Int)).toNat=n:=by rw[P8];omega
theorem wE{l:Int}(h:0<=l)(h2:l<=9223372036854775806):iu .i64 l 1=l%2:=by
 unfold iu;obtain⟨n,rfl⟩:=N7 h;have hx:((BitVec.ofInt 64 (n:Int))&&&(BitVec.ofInt 64 1)).toNat=n%2:=by rw[Q5,sU h2,show(BitVec.ofInt 64 1).toNat=1 by decide,Nat.and_one_is_mod]
 show wrap .i64 (((BitVec.ofInt 64 (n:Int))&&&(BitVec.ofInt 64 1)).toNat:Int)=_;rw[hx,wr]<;>omega
theorem AG{l:Int}(h:0<=l)(h2:l<=9223372036854775806):dj .i64 l 0=l:=by
 unfold dj;obtain⟨n,rfl⟩:=N7 h;have hx:((BitVec.ofInt 64 (n:Int))^^^(BitVec.ofInt 64 0)).toNat=n:=by rw[Q4,sU h2,show(BitVec.ofInt 64 0).toNat=0 by decide,Nat.xor_zero]
 show wrap .i64 (((BitVec.ofInt 64 (n:Int))^^^(BitVec.ofInt 64 0)).toNat:Int)=_;rw[hx,wr]<;>omega
def bp(row:Li)(l:Int):Int:=row.getD (l/2).toNat 0+l%2
theorem gV{row:Li}{l:Int}(hl:0<=l/\l<=1000000)(hi:(l/2).toNat<row.length){j:Int}(hj:row.getD (l/2).toNat 0=2*j)(hj2:0<=j/\j<=1000000):dX row l=some (bp row l):=by
 have hg:aD row (l/2)=some (2*j):=by rw[show l/2=(((l/2).toNat:Nat):Int) from by omega,bu hi];rw[iB,c6 hi,JL]at hj;rw[hj]
 rw[dX.eq,td hl.1 (by omega),hg,aj,wE hl.1 (by omega)];unfold bp;rw[hj];rcases(by omega:l%2=0\/l%2=1) with e|e;rw[e,AG (by omega) (by omega),OE];rw[e,eM (by omega) (by omega)];unfold neg;rw[aa (by omega)]
theorem vI{row:Li}{l j:Int}(hj:row.getD (l/2).toNat 0=2*j):bp row (neg l)=neg (bp row l):=by unfold bp;rw[cq,hj];unfold neg;split<;>split<;>omega
def uy(x:Int):Li->Li
 |[]=>[x]
 |y::r=>if x<y then x::y::r else if x=y then y::r else y::uy x r
def yK(l:Li):Li:=l.foldr uy []
theorem re{x z:Int}:∀{S:Li},z∈uy x S↔z=x\/z∈S
 |[]=>by simp[uy]
 |y::r=>by unfold uy;split;rw[eR];split;rename_i e;subst e;rw[eR];exact⟨.inr,fun h=>h.elim .inl id⟩;rw[eR,re (S:=r),eR];constructor;rintro(h|h|h);exact .inr (.inl h);exact .inl h;exact .inr (.inr h);rintro(h|h|h);exact .inr (.inl h);exact .inl h;exact .inr (.inr h)
theorem pw{x:Int}:∀{S:Li},S.Pairwise (· < ·)->(uy x S).Pairwise (· < ·)
 |[],_=>by simp[uy]
 |y::r,h=>by have h':=h;rw[xg]at h;unfold uy;split;rename_i hlt;rw[xg];refine⟨fun z hz=>?_,h'⟩;rcases eR.1 hz with rfl|hz;exact hlt;have:=h.1 z hz;omega;split;exact h';rw[xg];refine⟨fun z hz=>?_,pw h.2⟩;rcases re.1 hz with rfl|hz;omega;exact h.1 z hz
theorem jo:∀(l:Li),(yK l).Pairwise (· < ·)/\∀z,z∈yK l↔z∈l
 |[]=>⟨List.Pairwise.nil,fun z=>Iff.rfl⟩
 |x::r=>by obtain⟨h1,h2⟩:=jo r;refine⟨pw h1,fun z=>?_⟩;show z∈uy x (yK r)↔_;rw[re,h2,eR]
theorem wj(l:Li):Lib.compact (gQ l)=yK l:=by obtain⟨p1,p2⟩:=eQ l;obtain⟨c1,c2⟩:=uH p2;obtain⟨n1,n2⟩:=jo l;exact l7 c1 n1 fun y=>by rw[c2,p1.mem_iff,n2]
def jh(l:Li):Bool:=l.any fun x=>l.any fun y=>decide (x≠y/\x/2=y/2)
theorem eY{l:Li}:jh l=true↔∃x∈l,∃y∈l,x≠y/\x/2=y/2:=by unfold jh;rw[nh];constructor;rintro⟨x,hx,h⟩;rw[nh]at h;obtain⟨y,hy,h⟩:=h;exact⟨x,hx,y,hy,by simpa using h⟩;rintro⟨x,hx,y,hy,h⟩;exact⟨x,hx,nh.2 ⟨y,hy,by simpa using h⟩⟩
theorem zG{C:Li}(hC:C.Pairwise (· < ·)):(∀j,j<C.length->0<=j->0<j->C.getD j 0/2≠C.getD (j-1) 0/2)↔jh C=false:=by
 have at_:∀{j},(hj:j<C.length)->C.getD j 0=C[j]:=fun hj=>by rw[iB,c6 hj,JL]
 have lt:∀{i j:Nat} (hi:i<C.length) (hj:j<C.length),i<j->C[i]<C[j]:=fun hi hj h=>xd.1 hC _ _ hi hj h;constructor;intro h;rw[<-Bool.not_eq_true];intro ht;have main:∀x∈C,∀y∈C,x<y->x/2=y/2->False:=by
  intro x hx y hy hlt he;obtain⟨i,hi,rfl⟩:=Dj hx;obtain⟨j,hj,rfl⟩:=Dj hy;have hij:i<j:=by
   apply og;intro hn;rcases iQ j i with q|q;have:=lt hj hi q;omega;have:i=j:=by omega
   subst this;omega
  have hij2:i=j-1:=by apply og;intro hn;have h1:=lt hi (j:=j-1) (by omega) (by omega);have h2:=lt (i:=j-1) (by omega) hj (by omega);omega
  have:=h j hj (by omega) (by omega);rw[at_ hj,at_ (by omega)]at this;subst hij2;exact this he.symm
 obtain⟨x,hx,y,hy,hne,he⟩:=eY.1 ht;rcases Int.lt_or_gt_of_ne hne with q|q;exact main x hx y hy q he;exact main y hy x hx q he.symm;intro h j hj _ h0 he;rw[at_ hj,at_ (by omega)]at he;have:=eY.2 ⟨_,dW hj,_,dW (show j-1<C.length by omega),by have:=lt (i:=j-1) (by omega) hj (by omega);omega,he⟩;rw[h]at this;cases this
theorem vj{a b:Li}(h:∀z,z∈a↔z∈b):jh a=jh b:=by rw[BR,eY,eY];constructor;rintro⟨x,hx,y,hy,e⟩;exact⟨x,(h x).1 hx,y,(h y).1 hy,e⟩;rintro⟨x,hx,y,hy,e⟩;exact⟨x,(h x).2 hx,y,(h y).2 hy,e⟩
theorem rA{v:Int}(hv:gD v){l:Li}(hl:∀x∈l,isLit v x)(hn:l.length<=1000000):aQ v l=some (if jh l=true then([],true,0) else(yK l,false,0)):=by
 obtain⟨p1,p2⟩:=eQ l;obtain⟨n1,n2⟩:=jo l;have hcl:(Lib.compact (gQ l)).length<=1000000:=by have:=sb (gQ l);rw[p1.length_eq]at this;omega
 have hv':=hv;obtain⟨v1,v2⟩:=hv';have g0:=aQ.loop0 hv hl hn l.length 0 (by omega);rw[wj]at g0 hcl;have g1:=aQ.loop1 hcl (fun x hx=>by have:=hl x ((n2 x).1 hx);omega) (yK l).length 0 (by omega);rw[show((0:Nat):Int)=0 from rfl]at g0 g1;have e:aQ v l=aQ.l1 ((yK l).length:Int) 0 (yK l):=by rw[aQ.eq,cd,ab (by omega),cd,ab (by omega),g0]
 rw[e,g1,vj (fun z=>(n2 z).symm)];by_cases hall:∀j,j<(yK l).length->0<=j->0<j->(yK l).getD j 0/2≠(yK l).getD (j-1) 0/2;rw[aa hall,(zG n1).1 hall,ab (by simp)];rw[ab hall,aa (by rw[<-Bool.not_eq_false];exact fun h=>hall ((zG n1).2 h))]
def rR(ls:Li):Li:=ls.filter fun x=>decide (1<x)
def kC(cl:Ll)(ls:Li):Ll:=if 1∈ls then cl else if jh (rR ls)=true then cl else cl++[yK (rR ls)]
theorem bw.loop{v:Int}(hv:gD v){cl:Ll}(hcl:cl.length<=100000){ls:Li}(hl:∀x∈ls,0<=x/\x<=2*v+1)(hn:ls.length<=1000):∀(n i:Nat),i+n=ls.length->1∉ls.take i ->
  bw.l0 v ls (ls.length:Int) (i:Int) cl (rR (ls.take i))=some (kC cl ls)
 |0,i,hi,h1=>by
  rw[BQ (by omega)]at h1 ⊢;have hb:∀x∈rR ls,isLit v x:=fun x hx=>by
   obtain⟨h1,h2⟩:=p6.1 hx;have:=hl x h1;have:1<x:=by simpa using h2
   exact⟨by omega,by omega⟩
  have hbn:(rR ls).length<=ls.length:=Pg _ _;rw[bw.l0_eq,cd,ab (by omega),rA hv hb (by omega),aj];unfold kC;rw[ab h1];by_cases ht:jh (rR ls)=true;rw[aa ht,aa ht];rfl;rw[ab ht,ab ht];dsimp only;rw[cn,aa rfl,cf,bH (by simp;omega),aj]
 |n+1,i,hi,h1=>by
  have hlt:i<ls.length:=by omega
  have hx:=hl _ (dW hlt);have hw:=wi i (by omega);have hbn:(rR (ls.take i)).length<=(ls.take i).length:=Pg _ _;rw[lE]at hbn;rw[bw.l0_eq,cd,aa (by omega),bu hlt,aj,ce];by_cases e1:ls[i]=1;rw[aa e1];unfold kC;rw[aa (e1▸dW hlt)];have h1':1∉ls.take (i+1):=by rw[BP,c6 hlt,jR,OI,fQ];rintro(h|h);exact h1 h;exact e1 h.symm
  have ih:=bw.loop hv hcl hl hn n (i+1) (by omega) h1';have hb:rR (ls.take (i+1))=rR (ls.take i)++if 1<ls[i] then[ls[i]] else[]:=by unfold rR;rw[BP,c6 hlt,OI,Q2];congr 1;by_cases h:1<ls[i]<;>simp[h]
  rw[ab e1,cd,hw,<-ih,hb];by_cases e2:ls[i]>1;rw[aa e2,aa e2,bH (by simp;omega),aj];rw[ab e2,ab e2,s7]
theorem gW{v:Int}(hv:gD v){cl:Ll}(hcl:cl.length<=100000){ls:Li}(hl:∀x∈ls,0<=x/\x<=2*v+1)(hn:ls.length<=1000):bw cl v ls=some (kC cl ls):=by have:=bw.loop hv hcl hl hn ls.length 0 (by omega) (by simp);rw[bw.eq];exact this
theorem rL{cl:Ll}{ls:Li}:(kC cl ls).length<=cl.length+1:=by unfold kC;split;omega;split;omega;simp
def vq(M:Lb)(v:Int):Lb:=M.set v.toNat true
theorem c7{M:Lb}{v:Int}:(vq M v).length=M.length:=lY ..
theorem eK{M:Lb}{v:Int}(h:v.toNat<M.length){j:Nat}:(vq M v).getD j false=(decide (j=v.toNat)||M.getD j false):=by unfold vq;rw[iB,zH,iB];by_cases e:v.toNat=j;subst e;rw[aa rfl,aa h,kp rfl];rfl;rw[ab e,pd (fun q=>e q.symm),Ik]
def kW(M:Lb):Li->Lb
 |[]=>M
 |l::r=>kW (vq M (l/2)) r
theorem gR:∀{ls:Li} {M:Lb},(kW M ls).length=M.length
 |[],M=>rfl
 |l::r,M=>by rw[kW,gR,c7]
theorem tp{N:Nat}{j:Nat}:∀{ls:Li} {M:Lb},M.length=N->(∀l∈ls,(l/2).toNat<N)->(kW M ls).getD j false=(decide (∃l∈ls,j=(l/2).toNat)||M.getD j false)
 |[],M,_,_=>by simp[kW]
 |l::r,M,hM,h=>by rw[kW,tp (by rw[c7];exact hM) (fun x hx=>h x (jI _ hx)),eK (by rw[hM];exact h l (ix ..)),<-Bool.or_assoc];congr 1;rw[BR];simp only[Du,ir];constructor;rintro(⟨x,hx,e⟩|e);exact⟨x,jI _ hx,e⟩;exact⟨l,ix ..,e⟩;rintro⟨x,hx,e⟩;rcases eR.1 hx with rfl|hx;exact .inr e;exact .inl ⟨x,hx,e⟩
def ik(f:Nat)(As:Lp):Nat->Lb->Lb
 |0,M=>M
 |k+1,M=>ik f As k (if M.getD (f+k) false=true then vq (vq M ((As.getD k (0,0)).1/2)) ((As.getD k (0,0)).2/2) else M)
theorem tH{f:Nat}{As:Lp}:∀{k:Nat} {M:Lb},(ik f As k M).length=M.length
 |0,M=>rfl
 |k+1,M=>by rw[ik,tH];split;rw[c7,c7];rfl
def gI(f:Nat)(As:Lp):Prop:=∀k,k<As.length->0<=(As.getD k (0,0)).2/\(As.getD k (0,0)).2<=(As.getD k (0,0)).1/\(As.getD k (0,0)).1/2<(f:Int)+k
theorem yH:∀{As:Lp} {n:Int},uj n As=true->∀k,k<As.length->0<=(As.getD k (0,0)).2/\(As.getD k (0,0)).2<=(As.getD k (0,0)).1/\(As.getD k (0,0)).1/2<n+k
 |[],n,h,k,hk=>by simp at hk
 |x::r,n,h,k,hk=>by
  unfold uj at h;rw[eJ,eJ,eJ,ir,ir,ir]at h;obtain⟨⟨⟨h1,h2⟩,h3⟩,h4⟩:=h;cases k with
  |zero=>exact⟨h1,h2,by simpa using h3⟩
  |succ k=>have:=yH h4 k (by simpa using hk);rw[List.getD_cons_succ];refine⟨this.1,this.2.1,?_⟩;have:=this.2.2;omega
section
variable {f:Nat} {As:Lp}
theorem nK(hb:gI f As):∀{k:Nat} {M:Lb},k<=As.length->f+As.length<=M.length->∀j,M.getD j false=true->(ik f As k M).getD j false=true
 |0,M,_,_,j,h=>h
 |k+1,M,hk,hM,j,h=>by obtain⟨b1,b2,b3⟩:=hb k (by omega);rw[ik];refine nK hb (by omega) (by split<;>first|exact hM|(rw[c7,c7];exact hM)) j ?_;split;rw[eK (by rw[c7];omega),eK (by omega),h];simp;exact h
theorem pz(hb:gI f As):∀{k:Nat} {M:Lb},k<=As.length->f+As.length<=M.length->∀j,f+k<=j+1->(ik f As k M).getD j false=M.getD j false
 |0,M,_,_,j,h=>rfl
 |k+1,M,hk,hM,j,h=>by obtain⟨b1,b2,b3⟩:=hb k (by omega);rw[ik,pz hb (by omega) (by split<;>first|exact hM|(rw[c7,c7];exact hM)) j (by omega)];split;rw[eK (by rw[c7];omega),eK (by omega),pd (by omega),pd (by omega),Ik,Ik];rfl
def eV(f:Nat)(As:Lp)(M:Lb):Prop:=∀k,k<As.length->M.getD (f+k) false=true->M.getD ((As.getD k (0,0)).1/2).toNat false=true/\M.getD ((As.getD k (0,0)).2/2).toNat false=true
theorem jW(hb:gI f As):∀{k:Nat} {M:Lb},k<=As.length->f+As.length<=M.length->∀j,j<k->(ik f As k M).getD (f+j) false=true ->
  (ik f As k M).getD ((As.getD j (0,0)).1/2).toNat false=true/\(ik f As k M).getD ((As.getD j (0,0)).2/2).toNat false=true
 |0,M,_,_,j,h,_=>by omega
 |k+1,M,hk,hM,j,h,ht=>by
  obtain⟨b1,b2,b3⟩:=hb k (by omega);have hlen:f+As.length<=(if M.getD (f+k) false=true then vq (vq M ((As.getD k (0,0)).1/2)) ((As.getD k (0,0)).2/2) else M).length:=by split<;>first|exact hM|(rw[c7,c7];exact hM)
  rw[ik]at ht ⊢;rcases iQ j k with q|q;exact jW hb (by omega) hlen j q ht;have e:j=k:=by omega
  subst e;rw[pz hb (by omega) hlen _ (by omega)]at ht;have hm:M.getD (f+j) false=true:=by split at ht;rw[eK (by rw[c7];omega),eK (by omega),pd (by omega),pd (by omega),Ik,Ik]at ht;exact ht;exact ht
  rw[aa hm]at hlen ⊢;exact⟨nK hb (by omega) hlen _ (by rw[eK (by rw[c7];omega),eK (by omega),kp (rfl),Bool.true_or,Bool.or_true]),
   nK hb (by omega) hlen _ (by rw[eK (by rw[c7];omega),kp (rfl),Bool.true_or])⟩
end
def bX(M:Lb):Nat->Nat
 |0=>0
 |v+1=>bX M v+if M.getD (v+1) false=true then 1 else 0
theorem gP{M:Lb}:∀{a b:Nat},a<=b->bX M a<=bX M b/\bX M b<=bX M a+(b-a)
 |a,0,h=>by
  have:a=0:=by omega
  subst this;omega
 |a,b+1,h=>by by_cases e:a=b+1;subst e;omega;have:=gP (M:=M) (a:=a) (b:=b) (by omega);rw[bX];split<;>omega
theorem jy{M:Lb}{v:Nat}(h:M.getD v false=true)(hv:0<v):bX M v=bX M (v-1)+1:=by obtain⟨u,rfl⟩:∃u,v=u+1:=⟨v-1,by omega⟩;rw[bX,aa h];rfl
theorem wm{M:Lb}{a b:Nat}(hb:M.getD b false=true)(h:a<b):bX M a<bX M b:=by rw[jy hb (by omega)];have:=(gP (M:=M) (a:=a) (b:=b-1) (by omega)).1;omega
def bh(M:Lb)(N k:Nat):Li:=(List.range N).map fun v=>if v=0 then 0 else if v<=k then(if M.getD v false=true then 2*(bX M v:Int) else -1) else 0
theorem fB{M:Lb}{N k:Nat}:(bh M N k).length=N:=by simp[bh]
theorem BJ{M:Lb}{N k v:Nat}(h:v<N):(bh M N k).getD v 0=if v=0 then 0 else if v<=k then(if M.getD v false=true then 2*(bX M v:Int) else -1) else 0:=by rw[iB,c6 (by rw[fB];exact h),JL];simp[bh]
theorem zY{M:Lb}{N:Nat}:bh M N 0=List.replicate N 0:=by refine Mq (by rw[fB,qz]) fun j h1 h2=>?_;rw[List.getElem_replicate];simp only[bh,List.getElem_map,List.getElem_range];split;rfl;rw[ab (by omega)]
theorem BI{M:Lb}{N k:Nat}:(bh M N k).set (k+1) (if M.getD (k+1) false=true then 2*(bX M (k+1):Int) else -1)=bh M N (k+1):=by refine Mq (by rw[lY,fB,fB]) fun j h1 h2=>?_;rw[List.getElem_set];simp only[bh,List.getElem_map,List.getElem_range];by_cases e:k+1=j;subst e;rw[aa rfl,ab (show ¬k+1=0 by omega),aa (show k+1<=k+1 by omega)];rw[ab e];by_cases e0:j=0;rw[aa e0,aa e0];rw[ab e0,ab e0];by_cases e1:j<=k;rw[aa e1,aa (show j<=k+1 by omega)];rw[ab e1,ab (show ¬j<=k+1 by omega)]
theorem nc{M:Lb}{n w:Nat}(hw:w<=n)(hm:w=0\/M.getD w false=true):(bh M (n+1) n).getD w 0=2*(bX M w:Int):=by rw[BJ (by omega)];by_cases e:w=0;subst e;rw[aa rfl];rfl;rw[ab e,aa hw,aa (hm.resolve_left e)]
def zf(row:Li)(g:Int)(x:Int×Int)(cl:Ll):Ll:=
 kC (kC (kC cl [bp row (2*g+1),bp row x.1]) [bp row (2*g+1),bp row x.2]) [bp row (2*g),bp row (neg x.1),bp row (neg x.2)]
def eS(M:Lb)(row:Li):Nat->Lp->Ll->Ll
 |_,[],cl=>cl
 |g,x::r,cl=>eS M row (g+1) r (if M.getD g false=true then zf row g x cl else cl)
end
section
variable {I:Int} {Ls As:Lp} {Bs Cs:Li} {f n:Nat}
theorem Hg{M:Lb}{v:Nat}(h:v<M.length):M[v]?=some (M.getD v false):=by rw[iB,c6 h];rfl
theorem rP{M:Lb}{v:Nat}(h:v<M.length):aD M (v:Int)=some (M.getD v false):=by rw[gi,Hg h]
theorem IS{k:Nat}(h:k<As.length):aD As (k:Int)=some (As.getD k (0,0)):=by rw[gi,iB,c6 h];rfl
theorem MT{R:Li}{v:Nat}(h:v<R.length):R[v]?=some (R.getD v 0):=by rw[iB,c6 h];rfl
theorem Az{R:Li}{v:Nat}(h:v<R.length):aD R (v:Int)=some (R.getD v 0):=by rw[gi,MT h]
theorem iV{x:Int}(h:0<=x)(h2:x<=1000000):wrap .i64 (Int.tdiv x 2)=(((x/2).toNat:Nat):Int):=by rw[td h (by omega)];omega
theorem ay.loop0{N:Nat}{ls:Li}(hl:∀l∈ls,0<=l/\l<=1000000/\(l/2).toNat<N)(hn:ls.length<=1000)(hI:0<=I/\I<=1000)(hL:Ls.length<=1000)(hN:0<N/\N<=1000000):∀(n i:Nat) (M:Lb),i+n=ls.length->M.length=N ->
  ay.l0 ls (ls.length:Int) (i:Int) M I Ls As Bs Cs=ay.l1 (1+I+Ls.length) ((N:Int)-1) (kW M (ls.drop i)) I Ls As Bs Cs
 |0,i,M,hi,hM=>by
  have w1:wrap .i64 (1+I)=1+I:=by rw[wr]<;>omega
  have w2:wrap .i64 (1+I+(Ls.length:Int))=1+I+(Ls.length:Int):=by rw[wr]<;>omega
  have w3:wrap .i64 ((M.length:Int)-1)=(N:Int)-1:=by rw[hM,wr]<;>omega
  rw[ay.l0_eq,cd,ab (by omega),lD (by omega),w1,w2,w3];rfl
 |n+1,i,M,hi,hM=>by
  have hlt:i<ls.length:=by omega
  obtain⟨h0,h1,h2⟩:=hl _ (dW hlt);have hw:=wi i (by omega);rw[ay.l0_eq,cd,aa (by omega),bu hlt,aj,iV h0 h1,rP (by rw[hM];exact h2),aj,jm,Hg (by rw[hM];exact h2),aj,hw,
   ay.loop0 hl hn hI hL hN n (i+1) _ (by omega) (by rw[lY];exact hM),drop_cons hlt,kW]
  rfl
theorem ay.loop1(hb:gI f As)(hf:(f:Int)=1+I+Ls.length)(hN:f+As.length<=1001):∀(k:Nat) (M:Lb),k<=As.length->M.length=f+As.length ->
  ay.l1 (1+I+Ls.length) (((f+k:Nat):Int)-1) M I Ls As Bs Cs=some (ik f As k M)
 |0,M,hk,hM=>by rw[ay.l1_eq,cd,ab (by omega)];rfl
 |k+1,M,hk,hM=>by
  obtain⟨b1,b2,b3⟩:=hb k (by omega);have e1:((f+(k+1):Nat):Int)-1=((f+k:Nat):Int):=by omega
  have w1:wrap .i64 (((f+k:Nat):Int)-(1+I+Ls.length))=(k:Int):=by rw[wr]<;>omega
  have w2:wrap .i64 (((f+k:Nat):Int)-1)=((f+k:Nat):Int)-1:=by rw[wr]<;>omega
  have i0:f+k<M.length:=by omega
  rw[e1,ay.l1_eq,cd,aa (by omega),w1,w2,IS (by omega),aj,rP i0,aj,jm,Hg i0,aj,ik];generalize As.getD k (0,0)=x at *;cases hm:M.getD (f+k) false with
  |true=>
   have i1:(x.1/2).toNat<M.length:=by omega
   have i2:(x.2/2).toNat<(M.set (x.1/2).toNat true).length:=by rw[lY];omega
   rw[ct,iV (by omega) (by omega),iV (by omega) (by omega),rP i1,aj,jm,Hg i1,aj,jm,rP i2,aj,Hg i2,aj,aa rfl];exact ay.loop1 hb hf hN k _ (by omega) (by rw[lY,lY];exact hM)
  |false=>rw[cf,ab (by simp)];exact ay.loop1 hb hf hN k _ (by omega) hM
theorem aw.loop0{ls:Li}{v:Int}(hn:ls.length<=140737488351232)(hr:∀l∈ls,in64 l){b1:Int}{o2 o3:Ll}:∀(m i:Nat),i+m=ls.length ->
  aw.l0 ls v ls (ls.length:Int) (i:Int) I Ls As Bs Cs b1 o2 o3=if ∀l∈ls.drop i,db v l then aw.l0 ls v ls (ls.length:Int) (ls.length:Int) I Ls As Bs Cs b1 o2 o3 else some ((0,([],[])),2)
 |0,i,hi=>by
  have:i=ls.length:=by omega
  subst this;rw[List.drop_length,aa (by simp)]
 |m+1,i,hi=>by
  have hlt:i<ls.length:=by omega
  have hx:=hr _ (dW hlt);have hw:=wi i (by omega);rw[aw.l0_eq (x31:=(i:Int)),cd,aa (by omega),bu hlt,aj,cd,drop_cons hlt];by_cases c1:ls[i]<0;rw[aa c1,ab (fun g=>by have:=(g _ (ix ..)).1;omega)];rw[ab c1,Pa (by omega) hx,cd];by_cases c2:ls[i]/2>v;rw[aa c2,ab (fun g=>by have:=(g _ (ix ..)).2;omega)];rw[ab c2,hw,aw.loop0 hn hr m (i+1) (by omega)];by_cases c3:∀l∈ls.drop (i+1),db v l;rw[aa c3,aa (HP.2 ⟨⟨by omega,by omega⟩,c3⟩)];rw[ab c3,ab (fun g=>c3 (HP.1 g).2)]
theorem aw.loop1{M:Lb}(hI:0<=I)(hM:M.length=n+1)(hn:n<=1000)(hf:(f:Int)=1+I+Ls.length)(hN:f+As.length<=1001){b1:Int}{o5 o6 o7 o8:Ll}:∀(m k:Nat),k+m=n ->
  aw.l1 (n:Int) ((k+1:Nat):Int) I Ls As Bs Cs b1 M (bh M (n+1) k) (bX M k:Int) o5 o6 o7 o8=aw.l2 (f:Int) As (As.length:Int) 0 b1 M (bh M (n+1) n) (bX M n:Int) o5 o6 o7 o8
 |0,k,hk=>by
  have:k=n:=by omega
  subst this;have w1:wrap .i64 (1+I)=1+I:=by rw[wr]<;>omega
  have w2:wrap .i64 (1+I+(Ls.length:Int))=(f:Int):=by rw[wr]<;>omega
  rw[aw.l1_eq,cd,ab (by omega),w1,w2]
 |m+1,k,hk=>by
  have i1:k+1<(bh M (n+1) k).length:=by rw[fB];omega
  have i2:k+1<M.length:=by omega
  have hc:=gP (M:=M) (a:=0) (b:=k) (by omega);have w1:wrap .i64 (((k+1:Nat):Int)+1)=((k+1+1:Nat):Int):=by rw[wr]<;>omega
  rw[bX]at hc;have hs:=BI (M:=M) (N:=n+1) (k:=k);rw[<-aw.loop1 hI hM hn hf hN m (k+1) (by omega),aw.l1_eq (v13:=((k+1:Nat):Int)),cd,aa (by omega),Az i1,aj,jm,MT i1,aj,rP i2,aj,Hg i2,aj,w1];cases hm:M.getD (k+1) false with
  |true=>
   rw[hm,aa rfl]at hs;have i3:k+1<((bh M (n+1) k).set (k+1) (-1)).length:=by rw[lY];exact i1
   have w2:wrap .i64 ((bX M k:Int)+1)=(bX M (k+1):Int):=by rw[bX,hm,aa rfl,wr]<;>omega
   have hc2:=gP (M:=M) (a:=0) (b:=k+1) (by omega);rw[bX]at hc2;have w3:wrap .i64 (2*(bX M (k+1):Int))=2*(bX M (k+1):Int):=by rw[wr]<;>omega
   rw[ct,Az i3,aj,MT i3,aj,w2,w3,List.set_set,hs]
  |false=>
   rw[hm,ab (by simp)]at hs;have hcc:bX M (k+1)=bX M k:=by rw[bX,hm];rfl
   rw[cf,hs,hcc]
theorem jQ{M:Lb}{l:Int}(h0:0<=l)(hl:(l/2).toNat<=n)(hm:(l/2).toNat=0\/M.getD (l/2).toNat false=true):bp (bh M (n+1) n) l=2*(bX M (l/2).toNat:Int)+l%2/\bX M (l/2).toNat<=bX M n:=by refine⟨?_,(gP hl).1⟩;unfold bp;rw[nc hl hm]
theorem aw.loop2{M:Lb}(hM:M.length=n+1)(hn:n<=1000)(hb:gI f As)(hc:eV f As M)(hf:0<f)(hN:f+As.length=n+1){b1:Int}{o4 o5 o6:Ll}:∀(m i:Nat) (cl:Ll),i+m=As.length->cl.length<=3*i ->
  aw.l2 (f:Int) As (As.length:Int) (i:Int) b1 M (bh M (n+1) n) (bX M n:Int) o4 o5 o6 cl=some (((bX M n:Int),([bh M (n+1) n],eS M (bh M (n+1) n) (f+i) (As.drop i) cl)),0)
 |0,i,cl,hi,hcl=>by rw[aw.l2_eq,cd,ab (by omega),lD (by omega)];rfl
 |m+1,i,cl,hi,hcl=>by
  have hlt:i<As.length:=by omega
  obtain⟨b1',b2,b3⟩:=hb i hlt;have hcl':=hc i hlt;have i1:f+i<M.length:=by omega
  have w1:wrap .i64 ((f:Int)+(i:Int))=((f+i:Nat):Int):=by rw[wr]<;>omega
  have w2:=wi i (by omega);have hd:As.drop i=As.getD i (0,0)::As.drop (i+1):=by rw[drop_cons hlt,iB,c6 hlt];rfl
  have hv:gD (bX M n:Int):=by have:=gP (M:=M) (a:=0) (b:=n) (by omega);rw[bX]at this;unfold gD;omega
  rw[aw.l2_eq,cd,aa (by omega),IS hlt,aj,w1,w2,rP i1,aj,jm,Hg i1,aj,hd,eS];generalize As.getD i (0,0)=x at *;cases hm:M.getD (f+i) false with
  |false=>rw[iA,cf,ab (by simp)];exact aw.loop2 hM hn hb hc hf hN m (i+1) cl (by omega) (by omega)
  |true=>
   obtain⟨c1,c2⟩:=hcl' hm;have i2:f+i<(bh M (n+1) n).length:=by rw[fB];omega
   obtain⟨j1,j2⟩:(bh M (n+1) n).getD (f+i) 0=2*(bX M (f+i):Int)/\bX M (f+i)<=bX M n:=⟨nc (by omega) (.inr hm),(gP (by omega)).1⟩;have g1:bp (bh M (n+1) n) (2*((f+i:Nat):Int))=2*(bX M (f+i):Int):=by unfold bp;rw[show 2*((f+i:Nat):Int)/2=((f+i:Nat):Int) by omega,jm,j1];omega
   have g2:bp (bh M (n+1) n) (2*((f+i:Nat):Int)+1)=2*(bX M (f+i):Int)+1:=by unfold bp;rw[show(2*((f+i:Nat):Int)+1)/2=((f+i:Nat):Int) by omega,jm,j1];omega
   obtain⟨a1,a2⟩:=jQ (n:=n) (M:=M) (l:=x.1) (by omega) (by omega) (.inr c1);obtain⟨a3,a4⟩:=jQ (n:=n) (M:=M) (l:=x.2) (by omega) (by omega) (.inr c2);have r1:=nc (M:=M) (n:=n) (w:=(x.1/2).toNat) (by omega) (.inr c1);have r2:=nc (M:=M) (n:=n) (w:=(x.2/2).toNat) (by omega) (.inr c2);have t1:=gV (row:=bh M (n+1) n) (l:=x.1) (by omega) (by rw[fB];omega) r1 (by obtain⟨_,q⟩:=hv;omega);have t2:=gV (row:=bh M (n+1) n) (l:=x.2) (by omega) (by rw[fB];omega) r2 (by obtain⟨_,q⟩:=hv;omega);have n1:=vI (row:=bh M (n+1) n) (l:=x.1) r1;have n2:=vI (row:=bh M (n+1) n) (l:=x.2) r2;obtain⟨v1,v2⟩:=hv;have x1:dj .i64 (2*(bX M (f+i):Int)) 1=bp (bh M (n+1) n) (2*((f+i:Nat):Int)+1):=by rw[eM (by omega) (by omega),g2];unfold neg;rw[aa (by omega)]
   have x2:dj .i64 (bp (bh M (n+1) n) x.1) 1=bp (bh M (n+1) n) (neg x.1):=by rw[eM (by omega) (by omega),n1]
   have x3:dj .i64 (bp (bh M (n+1) n) x.2) 1=bp (bh M (n+1) n) (neg x.2):=by rw[eM (by omega) (by omega),n2]
   have y1:0<=bp (bh M (n+1) n) (neg x.1)/\bp (bh M (n+1) n) (neg x.1)<=2*(bX M n:Int)+1:=by rw[n1,a1];unfold neg;split<;>omega
   have y2:0<=bp (bh M (n+1) n) (neg x.2)/\bp (bh M (n+1) n) (neg x.2)<=2*(bX M n:Int)+1:=by rw[n2,a3];unfold neg;split<;>omega
   have m1:∀z∈[bp (bh M (n+1) n) (2*((f+i:Nat):Int)+1),bp (bh M (n+1) n) x.1],0<=z/\z<=2*(bX M n:Int)+1:=fun z hz=>by rcases eR.1 hz with rfl|hz;omega;rw[fQ]at hz;subst hz;omega
   have m2:∀z∈[bp (bh M (n+1) n) (2*((f+i:Nat):Int)+1),bp (bh M (n+1) n) x.2],0<=z/\z<=2*(bX M n:Int)+1:=fun z hz=>by rcases eR.1 hz with rfl|hz;omega;rw[fQ]at hz;subst hz;omega
   have m3:∀z∈[bp (bh M (n+1) n) (2*((f+i:Nat):Int)),bp (bh M (n+1) n) (neg x.1),bp (bh M (n+1) n) (neg x.2)],0<=z/\z<=2*(bX M n:Int)+1:=fun z hz=>by rcases eR.1 hz with rfl|hz;omega;rcases eR.1 hz with rfl|hz;exact y1;rw[fQ]at hz;subst hz;exact y2
   have q1:=rL (cl:=cl) (ls:=[bp (bh M (n+1) n) (2*((f+i:Nat):Int)+1),bp (bh M (n+1) n) x.1]);have q2:=rL (cl:=kC cl [bp (bh M (n+1) n) (2*((f+i:Nat):Int)+1),bp (bh M (n+1) n) x.1]) (ls:=[bp (bh M (n+1) n) (2*((f+i:Nat):Int)+1),bp (bh M (n+1) n) x.2]);have q3:=rL (cl:=kC (kC cl [bp (bh M (n+1) n) (2*((f+i:Nat):Int)+1),bp (bh M (n+1) n) x.1]) [bp (bh M (n+1) n) (2*((f+i:Nat):Int)+1),bp (bh M (n+1) n) x.2]) (ls:=[bp (bh M (n+1) n) (2*((f+i:Nat):Int)),bp (bh M (n+1) n) (neg x.1),bp (bh M (n+1) n) (neg x.2)]);rw[iA,ct,Az i2,aj,MT i2,aj,j1,t1,aj,t2,aj,x1,x2,x3,<-g1,
    gW ⟨v1,v2⟩ (by omega) m1 (by simp),aj,gW ⟨v1,v2⟩ (by omega) m2 (by simp),aj,gW ⟨v1,v2⟩ (by omega) m3 (by simp),aj,aa rfl,
    aw.loop2 hM hn hb hc hf hN m (i+1) _ (by omega) (by omega)]
   rfl
def bF(I:Int)(Ls:Lp):Nat:=(1+I+Ls.length).toNat
def jx(I:Int)(Ls As:Lp)(lits:Li):Lb:=ik (bF I Ls) As As.length (kW (List.replicate ((size I Ls As).toNat+1) false) lits)
def Qf(I:Int)(Ls As:Lp)(M:Lb):Int×Ll×Ll:=
 ((bX M (size I Ls As).toNat:Int),([bh M ((size I Ls As).toNat+1) (size I Ls As).toNat],eS M (bh M ((size I Ls As).toNat+1) (size I Ls As).toNat) (bF I Ls) As []))
def L8(I:Int)(Ls As:Lp)(lits:Li):Int×Ll×Ll:=Qf I Ls As (jx I Ls As lits)
theorem iX(h:aP I Ls As Bs Cs=0):gI (bF I Ls) As:=by obtain⟨h0,_,g⟩:=aN h;intro k hk;have:=yH g.2.2.2 k hk;refine⟨this.1,this.2.1,?_⟩;have:=this.2.2;unfold bF;omega
theorem si(h:cG I Ls As Bs Cs){lits:Li}(hn:lits.length<=1000)(hr:∀l∈lits,in64 l):
  aw I Ls As Bs Cs lits=some (if aP I Ls As Bs Cs=0 then(if ∀l∈lits,db (size I Ls As) l then(L8 I Ls As lits,0) else((0,([],[])),2)) else((0,([],[])),aP I Ls As Bs Cs)):=by
 rw[aw.eq,fj h,aj,cn];by_cases c:aP I Ls As Bs Cs=0;have hb:=iX c;obtain⟨k1,k2,_⟩:=aN c;obtain⟨k2,k3,_⟩:=k2;have hs:size I Ls As=(((size I Ls As).toNat:Nat):Int):=by unfold size;omega
 have hf:((bF I Ls:Nat):Int)=1+I+Ls.length:=by unfold bF;omega
 have hsz:bF I Ls+As.length=(size I Ls As).toNat+1:=by unfold bF size;omega
 have hs1:(size I Ls As).toNat<=1000:=by unfold size;omega
 rw[aa c,aa c];have g0:=aw.loop0 (I:=I) (Ls:=Ls) (As:=As) (Bs:=Bs) (Cs:=Cs) (v:=size I Ls As) (b1:=0) (o2:=[]) (o3:=[]) (show lits.length<=140737488351232 by omega) hr lits.length 0 (by omega);rw[show((0:Nat):Int)=0 from rfl,jH]at g0;dsimp only;rw[aa rfl,g0];by_cases cl:∀l∈lits,db (size I Ls As) l;rw[aa cl,aa cl,aw.l0_eq,cd,ab (by omega),hs];have w1:wrap .i64 ((((size I Ls As).toNat:Nat):Int)+1)=(((size I Ls As).toNat+1:Nat):Int):=by rw[wr]<;>omega
 have hcl:∀l∈lits,0<=l/\l<=1000000/\(l/2).toNat<(size I Ls As).toNat+1:=fun l hl=>by have:=cl l hl;unfold db at this;omega
 have c0:=ay.loop0 (I:=I) (Ls:=Ls) (As:=As) (Bs:=Bs) (Cs:=Cs) (N:=(size I Ls As).toNat+1) hcl hn ⟨k1,by omega⟩ (by omega) ⟨by omega,by omega⟩ lits.length 0 (List.replicate ((size I Ls As).toNat+1) false) (by omega) (qz ..);rw[show((0:Nat):Int)=0 from rfl,jH]at c0;have c1:=ay.loop1 (I:=I) (Ls:=Ls) (As:=As) (Bs:=Bs) (Cs:=Cs) hb hf (by omega) As.length (kW (List.replicate ((size I Ls As).toNat+1) false) lits) (dD _) (by rw[gR,qz];omega);rw[hsz]at c1;have hM:(jx I Ls As lits).length=(size I Ls As).toNat+1:=by unfold jx;rw[tH,gR,qz]
 have hclo:eV (bF I Ls) As (jx I Ls As lits):=fun k hk ht=>jW hb (dD _) (by rw[gR,qz];omega) k hk ht;rw[w1,kV (by omega) (by omega),aj,aa rfl,jm,ay.eq,qz,c0,c1];have hM':ik (bF I Ls) As As.length (kW (List.replicate ((size I Ls As).toNat+1) false) lits)=jx I Ls As lits:=rfl;have hnn:(Nat.blt 0 ((size I Ls As).toNat+1)&&Nat.beq ((size I Ls As).toNat+1) ((size I Ls As).toNat+1))=true:=by rw[eJ];exact⟨by rw[Nat.blt_eq];omega,Mu _⟩
 rw[aj,hM',hM,hnn,ct,kV (by omega) (by omega),aj,aa rfl,jm];have l1:=aw.loop1 (I:=I) (Ls:=Ls) (As:=As) (Bs:=Bs) (Cs:=Cs) (b1:=0) (o5:=[]) (o6:=[]) (o7:=[]) (o8:=[]) k1 hM hs1 hf (by omega) (size I Ls As).toNat 0 (by omega);rw[zY]at l1;have l2:=aw.loop2 (b1:=0) (o4:=[]) (o5:=[]) (o6:=[]) hM hs1 hb hclo (show 0<bF I Ls by omega) hsz As.length 0 [] (by omega) (by simp);rw[jH]at l2;exact l1.trans l2;rw[ab cl,ab cl];rw[ab c,ab c];dsimp only;rw[ab c]
end
section
variable {I:Int} {Ls As:Lp} {Bs Cs:Li} {f n:Nat} {lits:Li}
theorem yn(h:cG I Ls As Bs Cs)(hn:lits.length<=1000)(hr:∀l∈lits,in64 l)(hc:aP I Ls As Bs Cs=0)(hl:∀l∈lits,db (size I Ls As) l){r:Int×Ll×Ll}(e:L8 I Ls As lits=r):aw I Ls As Bs Cs lits=some (r,0):=by rw[si h hn hr,aa hc,aa hl,e]
theorem cz{s l:Int}:db s l↔0<=l/\l<=2*s+1:=by unfold db;omega
def sD(ls:Li):Nat:=if 1∈ls then 0 else if jh (rR ls)=true then 0 else 1
theorem lx{cl:Ll}{ls:Li}:(kC cl ls).length=cl.length+sD ls:=by unfold kC sD;split;rfl;split;rfl;simp
theorem rz{M:Lb}{ls:Li}(h:∀l∈ls,0<=l/\(l/2).toNat<=n/\((l/2).toNat=0\/M.getD (l/2).toNat false=true)):sD (ls.map (bp (bh M (n+1) n)))=sD ls:=by
 have val:∀l∈ls,bp (bh M (n+1) n) l=2*(bX M (l/2).toNat:Int)+l%2/\(bX M (l/2).toNat=0↔l/2=0):=fun l hl=>by obtain⟨h1,h2,h3⟩:=h l hl;refine⟨(jQ h1 h2 h3).1,?_⟩;by_cases e:(l/2).toNat=0;rw[e,bX];omega;rw[jy (h3.resolve_left e) (by omega)];omega
 have inj:∀x∈ls,∀y∈ls,bX M (x/2).toNat=bX M (y/2).toNat->x/2=y/2:=fun x hx y hy e=>by obtain⟨x1,x2,x3⟩:=h x hx;obtain⟨y1,y2,y3⟩:=h y hy;rcases Nat.lt_trichotomy (x/2).toNat (y/2).toNat with q|q|q;have:=wm (y3.resolve_left (by omega)) q;omega;omega;have:=wm (x3.resolve_left (by omega)) q;omega
 have e1:1∈ls.map (bp (bh M (n+1) n))↔1∈ls:=by
  rw[jC];constructor;rintro⟨l,hl,e⟩;obtain⟨v1,v2⟩:=val l hl;have h0:=(h l hl).1;have:l=1:=by
   have:bX M (l/2).toNat=0:=by omega
   have:=v2.1 this;omega
  exact this▸hl;intro hl;obtain⟨v1,v2⟩:=val 1 hl;refine⟨1,hl,?_⟩;have:=v2.2 (by decide);omega
 have bigm:∀x,x∈rR (ls.map (bp (bh M (n+1) n)))↔∃l∈rR ls,x=bp (bh M (n+1) n) l:=fun x=>by
  unfold rR;rw[p6,jC];constructor;rintro⟨⟨l,hl,rfl⟩,e⟩;obtain⟨v1,v2⟩:=val l hl;have h0:=(h l hl).1;have e:1<bp (bh M (n+1) n) l:=by simpa using e
  refine⟨l,p6.2 ⟨hl,?_⟩,rfl⟩;rw[ir];apply og;intro q;have:=v2.2 (by omega);omega;rintro⟨l,hl,rfl⟩;obtain⟨hl,e⟩:=p6.1 hl;obtain⟨v1,v2⟩:=val l hl;have h0:=(h l hl).1;have e:1<l:=by simpa using e
  refine⟨⟨l,hl,rfl⟩,?_⟩;rw[ir];have:bX M (l/2).toNat≠0:=fun q=>by have:=v2.1 q;omega
  omega
 have e2:jh (rR (ls.map (bp (bh M (n+1) n))))=jh (rR ls):=by rw[BR,eY,eY];constructor;rintro⟨x,hx,y,hy,hne,he⟩;obtain⟨a,ha,rfl⟩:=(bigm x).1 hx;obtain⟨b,hb,rfl⟩:=(bigm y).1 hy;have ha':=(p6.1 ha).1;have hb':=(p6.1 hb).1;have va:=(val a ha').1;have vb:=(val b hb').1;refine⟨a,ha,b,hb,fun q=>hne (by rw[q]),inj a ha' b hb' ?_⟩;omega;rintro⟨a,ha,b,hb,hne,he⟩;have ha':=(p6.1 ha).1;have hb':=(p6.1 hb).1;have va:=(val a ha').1;have vb:=(val b hb').1;refine⟨_,(bigm _).2 ⟨a,ha,rfl⟩,_,(bigm _).2 ⟨b,hb,rfl⟩,?_,?_⟩;rw[va,vb,he];omega;rw[va,vb,he];omega
 unfold sD;rw[e2];by_cases q:1∈ls;rw[aa q,aa (e1.2 q)];rw[ab q,ab (fun w=>q (e1.1 w))]
def glen(g:Int)(x:Int×Int):Nat:=sD [2*g+1,x.1]+sD [2*g+1,x.2]+sD [2*g,neg x.1,neg x.2]
def zP(M:Lb):Nat->Lp->Nat
 |_,[]=>0
 |g,x::r=>(if M.getD g false=true then glen g x else 0)+zP M (g+1) r
theorem rj{M:Lb}(hb:gI f As)(hc:eV f As M)(hN:f+As.length=n+1):∀(m i:Nat) (cl:Ll),i+m=As.length->(eS M (bh M (n+1) n) (f+i) (As.drop i) cl).length=cl.length+zP M (f+i) (As.drop i)
 |0,i,cl,hi=>by rw[lD (by omega)];rfl
 |m+1,i,cl,hi=>by
  have hlt:i<As.length:=by omega
  obtain⟨b1,b2,b3⟩:=hb i hlt;have hc':=hc i hlt;have hd:As.drop i=As.getD i (0,0)::As.drop (i+1):=by rw[drop_cons hlt,iB,c6 hlt];rfl
  rw[hd,eS,zP,show f+i+1=f+(i+1) from rfl,rj hb hc hN m (i+1) _ (by omega)];generalize As.getD i (0,0)=x at *;by_cases hm:M.getD (f+i) false=true;obtain⟨c1,c2⟩:=hc' hm;rw[aa hm,aa hm];have k1:0<=2*((f+i:Nat):Int)/\(2*((f+i:Nat):Int)/2).toNat<=n/\((2*((f+i:Nat):Int)/2).toNat=0\/M.getD (2*((f+i:Nat):Int)/2).toNat false=true):=by rw[show(2*((f+i:Nat):Int)/2).toNat=f+i by omega];exact⟨by omega,by omega,.inr hm⟩
  have k2:0<=2*((f+i:Nat):Int)+1/\((2*((f+i:Nat):Int)+1)/2).toNat<=n/\(((2*((f+i:Nat):Int)+1)/2).toNat=0\/M.getD ((2*((f+i:Nat):Int)+1)/2).toNat false=true):=by rw[show((2*((f+i:Nat):Int)+1)/2).toNat=f+i by omega];exact⟨by omega,by omega,.inr hm⟩
  have k3:0<=x.1/\(x.1/2).toNat<=n/\((x.1/2).toNat=0\/M.getD (x.1/2).toNat false=true):=⟨by omega,by omega,.inr c1⟩;have k4:0<=x.2/\(x.2/2).toNat<=n/\((x.2/2).toNat=0\/M.getD (x.2/2).toNat false=true):=⟨by omega,by omega,.inr c2⟩;have k5:0<=neg x.1/\(neg x.1/2).toNat<=n/\((neg x.1/2).toNat=0\/M.getD (neg x.1/2).toNat false=true):=by rw[cq];exact⟨by unfold neg;split<;>omega,k3.2⟩
  have k6:0<=neg x.2/\(neg x.2/2).toNat<=n/\((neg x.2/2).toNat=0\/M.getD (neg x.2/2).toNat false=true):=by rw[cq];exact⟨by unfold neg;split<;>omega,k4.2⟩
  have m1:=rz (n:=n) (M:=M) (ls:=[2*((f+i:Nat):Int)+1,x.1]) (fun l hl=>by rcases eR.1 hl with rfl|hl;exact k2;rw[fQ]at hl;subst hl;exact k3);have m2:=rz (n:=n) (M:=M) (ls:=[2*((f+i:Nat):Int)+1,x.2]) (fun l hl=>by rcases eR.1 hl with rfl|hl;exact k2;rw[fQ]at hl;subst hl;exact k4);have m3:=rz (n:=n) (M:=M) (ls:=[2*((f+i:Nat):Int),neg x.1,neg x.2]) (fun l hl=>by rcases eR.1 hl with rfl|hl;exact k1;rcases eR.1 hl with rfl|hl;exact k5;rw[fQ]at hl;subst hl;exact k6);simp only[xe,JO]at m1 m2 m3;unfold zf glen;rw[lx,lx,lx,m1,m2,m3];omega;rw[ab hm,ab hm];omega
theorem Co(hc:aP I Ls As Bs Cs=0)(hl:∀l∈lits,db (size I Ls As) l):∀l∈lits,(l/2).toNat<(size I Ls As).toNat+1:=fun l h=>by have:=hl l h;unfold db at this;omega
end
section
variable {I:Int} {Ls As:Lp} {Bs Cs:Li} {lits:Li}
end
section
variable {v:Int} {fr cl:Ll}
end
section
def bb(V:Lb)(l:Int):Bool:=!(V.getD (l/2).toNat false==decide (l%2=1))
section
variable {I:Int} {Ls As:Lp} {Bs Cs:Li} {f n:Nat}
structure jL(f n:Nat)(As:Lp)(V:Lb):Prop where
 len:V.length=n+1
 zero:V.getD 0 false=false
 gate:∀k,k<As.length->V.getD (f+k) false=(bb V (As.getD k (0,0)).1&&bb V (As.getD k (0,0)).2)
structure Dh(M:Lb)(n:Nat)(W V:Lb):Prop where
 zero:V.getD 0 false=false
 at_:∀j,1<=j->j<=n->M.getD j false=true->W.getD (bX M j-1) false=V.getD j false
def sat(W:Lb)(cl:Ll):Bool:=cl.all fun c=>c.any (cO W)
theorem Cm{l:Int}{b:Bool}(h:0<=l):(if l%2=1 then !b else b) = !(b==decide (l%2=1)):=by by_cases e:l%2=1;rw[aa e,kp e];cases b<;>rfl;rw[ab e,pd e];cases b<;>rfl
theorem sQ{M W V:Lb}(hc:Dh M n W V){l:Int}(h0:0<=l)(hl:(l/2).toNat<=n)(h1:1<=(l/2).toNat)(hm:M.getD (l/2).toNat false=true):cO W (bp (bh M (n+1) n) l)=bb V l:=by have hp:=jy hm h1;rw[(jQ h0 hl (.inr hm)).1];unfold cO bb;rw[<-hc.at_ _ h1 hl hm,<-Cm h0,show(2*(bX M (l/2).toNat:Int)+l%2)%2=l%2 by omega,show((2*(bX M (l/2).toNat:Int)+l%2)/2-1).toNat=bX M (l/2).toNat-1 by omega]
theorem F3{W:Lb}{ls:Li}:(yK ls).any (cO W)=ls.any (cO W):=by rw[BR,nh,nh];constructor;rintro⟨x,hx,e⟩;exact⟨x,((jo ls).2 x).1 hx,e⟩;rintro⟨x,hx,e⟩;exact⟨x,((jo ls).2 x).2 hx,e⟩
theorem qs{M W V:Lb}(hc:Dh M n W V){cl:Ll}{ls:Li}(h:∀l∈ls,0<=l/\(l/2).toNat<=n/\((l/2).toNat=0\/M.getD (l/2).toNat false=true)):sat W (kC cl (ls.map (bp (bh M (n+1) n))))=(sat W cl&&ls.any (bb V)):=by
 have val:∀l∈ls,bp (bh M (n+1) n) l=2*(bX M (l/2).toNat:Int)+l%2/\(bX M (l/2).toNat=0↔(l/2).toNat=0):=fun l hl=>by obtain⟨h1,h2,h3⟩:=h l hl;refine⟨(jQ h1 h2 h3).1,?_⟩;by_cases e:(l/2).toNat=0;rw[e,bX];rw[jy (h3.resolve_left e) (by omega)];omega
 have tr:∀l∈ls,1<bp (bh M (n+1) n) l->cO W (bp (bh M (n+1) n) l)=bb V l:=fun l hl h1=>by
  obtain⟨g1,g2,g3⟩:=h l hl;obtain⟨v1,v2⟩:=val l hl;have hne:(l/2).toNat≠0:=fun e=>by have:=v2.2 e;omega
  exact sQ hc g1 g2 (by omega) (g3.resolve_left hne)
 have bigm:∀x,x∈rR (ls.map (bp (bh M (n+1) n)))↔∃l∈ls,x=bp (bh M (n+1) n) l/\1<x:=fun x=>by unfold rR;rw[p6,jC,ir];constructor;rintro⟨⟨l,hl,rfl⟩,e⟩;exact⟨l,hl,rfl,e⟩;rintro⟨l,hl,rfl,e⟩;exact⟨⟨l,hl,rfl⟩,e⟩
 unfold kC;by_cases q1:1∈ls.map (bp (bh M (n+1) n));rw[aa q1];obtain⟨l,hl,e⟩:=jC.1 q1;obtain⟨v1,v2⟩:=val l hl;have h0:=(h l hl).1;have hz:(l/2).toNat=0:=v2.1 (by omega);have hv:bb V l=true:=by unfold bb;rw[hz,hc.zero,kp (by omega)];rfl
 rw[nh.2 ⟨l,hl,hv⟩,JJ];rw[ab q1];by_cases q2:jh (rR (ls.map (bp (bh M (n+1) n))))=true;rw[aa q2];obtain⟨x,hx,y,hy,hne,he⟩:=eY.1 q2;obtain⟨a,ha,rfl,ha1⟩:=(bigm x).1 hx;obtain⟨b,hb,rfl,hb1⟩:=(bigm y).1 hy;have t1:=tr a ha ha1;have t2:=tr b hb hb1;have va:=(val a ha).1;have vb:=(val b hb).1;have hsum:ls.any (bb V)=true:=by
  cases hva:bb V a with
  |true=>exact nh.2 ⟨a,ha,hva⟩
  |false=>
   refine nh.2 ⟨b,hb,?_⟩;have hbn:bp (bh M (n+1) n) b=neg (bp (bh M (n+1) n) a):=by unfold neg;split<;>omega
   rw[<-t2,hbn,lG (by omega),t1,hva];rfl
 rw[hsum,JJ];rw[ab q2];unfold sat;rw[Qj,OP,List.all_nil,JJ,F3];congr 1;rw[BR,nh,nh];constructor;rintro⟨x,hx,e⟩;obtain⟨l,hl,rfl,h1⟩:=(bigm x).1 hx;exact⟨l,hl,by rw[<-tr l hl h1];exact e⟩;rintro⟨l,hl,e⟩;obtain⟨v1,v2⟩:=val l hl;have h0:=(h l hl).1;have h1:1<bp (bh M (n+1) n) l:=by apply og;intro q;have hz:(l/2).toNat=0:=v2.1 (by omega);have hl0:bp (bh M (n+1) n) l≠1:=fun w=>q1 (jC.2 ⟨l,hl,w⟩);unfold bb at e;rw[hz,hc.zero,pd (by rw[v1]at hl0 q;omega)]at e;cases e
 exact⟨_,(bigm _).2 ⟨l,hl,rfl,h1⟩,by rw[tr l hl h1];exact e⟩
def ze(V:Lb)(g:Int)(x:Int×Int):Bool:=[2*g+1,x.1].any (bb V)&&[2*g+1,x.2].any (bb V)&&[2*g,neg x.1,neg x.2].any (bb V)
def oF(M V:Lb):Nat->Lp->Bool
 |_,[]=>true
 |g,x::r=>(if M.getD g false=true then ze V g x else true)&&oF M V (g+1) r
theorem sY{M W V:Lb}(hc:Dh M n W V)(hb:gI f As)(hcl:eV f As M)(hN:f+As.length=n+1):∀(m i:Nat) (cl:Ll),i+m=As.length->sat W (eS M (bh M (n+1) n) (f+i) (As.drop i) cl)=(sat W cl&&oF M V (f+i) (As.drop i))
 |0,i,cl,hi=>by rw[lD (by omega),eS,oF,JJ]
 |m+1,i,cl,hi=>by
  have hlt:i<As.length:=by omega
  obtain⟨b1,b2,b3⟩:=hb i hlt;have hc':=hcl i hlt;have hd:As.drop i=As.getD i (0,0)::As.drop (i+1):=by rw[drop_cons hlt,iB,c6 hlt];rfl
  rw[hd,eS,oF,show f+i+1=f+(i+1) from rfl,sY hc hb hcl hN m (i+1) _ (by omega),<-Bool.and_assoc];congr 1;generalize As.getD i (0,0)=x at *;by_cases hm:M.getD (f+i) false=true;obtain⟨c1,c2⟩:=hc' hm;rw[aa hm,aa hm];have k1:0<=2*((f+i:Nat):Int)/\(2*((f+i:Nat):Int)/2).toNat<=n/\((2*((f+i:Nat):Int)/2).toNat=0\/M.getD (2*((f+i:Nat):Int)/2).toNat false=true):=by rw[show(2*((f+i:Nat):Int)/2).toNat=f+i by omega];exact⟨by omega,by omega,.inr hm⟩
  have k2:0<=2*((f+i:Nat):Int)+1/\((2*((f+i:Nat):Int)+1)/2).toNat<=n/\(((2*((f+i:Nat):Int)+1)/2).toNat=0\/M.getD ((2*((f+i:Nat):Int)+1)/2).toNat false=true):=by rw[show((2*((f+i:Nat):Int)+1)/2).toNat=f+i by omega];exact⟨by omega,by omega,.inr hm⟩
  have k3:0<=x.1/\(x.1/2).toNat<=n/\((x.1/2).toNat=0\/M.getD (x.1/2).toNat false=true):=⟨by omega,by omega,.inr c1⟩;have k4:0<=x.2/\(x.2/2).toNat<=n/\((x.2/2).toNat=0\/M.getD (x.2/2).toNat false=true):=⟨by omega,by omega,.inr c2⟩;have k5:0<=neg x.1/\(neg x.1/2).toNat<=n/\((neg x.1/2).toNat=0\/M.getD (neg x.1/2).toNat false=true):=by rw[cq];exact⟨by unfold neg;split<;>omega,k3.2⟩
  have k6:0<=neg x.2/\(neg x.2/2).toNat<=n/\((neg x.2/2).toNat=0\/M.getD (neg x.2/2).toNat false=true):=by rw[cq];exact⟨by unfold neg;split<;>omega,k4.2⟩
  have m1:=fun cl=>qs hc (cl:=cl) (ls:=[2*((f+i:Nat):Int)+1,x.1]) (fun l hl=>by rcases eR.1 hl with rfl|hl;exact k2;rw[fQ]at hl;subst hl;exact k3);have m2:=fun cl=>qs hc (cl:=cl) (ls:=[2*((f+i:Nat):Int)+1,x.2]) (fun l hl=>by rcases eR.1 hl with rfl|hl;exact k2;rw[fQ]at hl;subst hl;exact k4);have m3:=fun cl=>qs hc (cl:=cl) (ls:=[2*((f+i:Nat):Int),neg x.1,neg x.2]) (fun l hl=>by rcases eR.1 hl with rfl|hl;exact k1;rcases eR.1 hl with rfl|hl;exact k5;rw[fQ]at hl;subst hl;exact k6);simp only[xe,JO]at m1 m2 m3;unfold zf ze;rw[m3,m2,m1,Bool.and_assoc,Bool.and_assoc,Bool.and_assoc];rw[ab hm,ab hm,JJ]
theorem Bt{V:Lb}{l:Int}:bb V (neg l) = !bb V l:=by unfold bb;rw[cq];unfold neg;by_cases e:l%2=0;rw[aa e,kp (show(l+1)%2=1 by omega),pd (show ¬l%2=1 by omega)];cases V.getD (l/2).toNat false<;>rfl;rw[ab e,pd (show ¬(l-1)%2=1 by omega),kp (show l%2=1 by omega)];cases V.getD (l/2).toNat false<;>rfl
theorem CB{V:Lb}{g:Nat}{x:Int×Int}:ze V (g:Int) x=(V.getD g false==(bb V x.1&&bb V x.2)):=by
 have e1:bb V (2*(g:Int))=V.getD g false:=by unfold bb;rw[show(2*(g:Int)/2).toNat=g by omega,pd (show ¬(2*(g:Int))%2=1 by omega)];cases V.getD g false<;>rfl
 have e2:bb V (2*(g:Int)+1) = !V.getD g false:=by unfold bb;rw[show((2*(g:Int)+1)/2).toNat=g by omega,kp (show(2*(g:Int)+1)%2=1 by omega)];cases V.getD g false<;>rfl
 unfold ze;simp only[NC,List.any_nil,e1,e2,Bt];cases V.getD g false<;>cases bb V x.1<;>cases bb V x.2<;>rfl
theorem py{M V:Lb}(hA:∀k,k<As.length->V.getD (f+k) false=(bb V (As.getD k (0,0)).1&&bb V (As.getD k (0,0)).2)):∀(m i:Nat),i+m=As.length->oF M V (f+i) (As.drop i)=true
 |0,i,hi=>by rw[lD (by omega)];rfl
 |m+1,i,hi=>by
  have hlt:i<As.length:=by omega
  have hd:As.drop i=As.getD i (0,0)::As.drop (i+1):=by rw[drop_cons hlt,iB,c6 hlt];rfl
  rw[hd,oF,CB,hA i hlt,show f+i+1=f+(i+1) from rfl,py hA m (i+1) (by omega)];split<;>simp
theorem Fa{v:Int}{ls:Li}(h:∀x∈ls,x<=2*v+1)(ht:jh (rR ls)≠true):kd v (yK (rR ls)):=by
 obtain⟨n1,n2⟩:=jo (rR ls);constructor;intro l hl;obtain⟨g1,g2⟩:=p6.1 ((n2 l).1 hl);have:=h l g1;have:1<l:=by simpa using g2
 exact⟨by omega,by omega⟩;refine n1.imp_of_mem fun {a b} ha hb hab=>?_;have hne:a/2≠b/2:=fun e=>ht (eY.2 ⟨a,(n2 a).1 ha,b,(n2 b).1 hb,by omega,e⟩);omega
theorem qE{v:Int}{cl:Ll}{ls:Li}(hcl:dM v cl)(h:∀x∈ls,x<=2*v+1):dM v (kC cl ls):=by unfold kC;split;exact hcl;split;exact hcl;rename_i ht;intro c hc;rcases jR.1 hc with q|q;exact hcl c q;rw[fQ]at q;subst q;exact Fa h ht
theorem lK{M:Lb}{l:Int}(h0:0<=l)(hl:(l/2).toNat<=n)(hm:(l/2).toNat=0\/M.getD (l/2).toNat false=true):bp (bh M (n+1) n) l<=2*(bX M n:Int)+1:=by obtain⟨a,b⟩:=jQ h0 hl hm;omega
theorem tg{M:Lb}(hb:gI f As)(hcl:eV f As M)(hN:f+As.length=n+1):∀(m i:Nat) (cl:Ll),i+m=As.length->dM (bX M n:Int) cl->dM (bX M n:Int) (eS M (bh M (n+1) n) (f+i) (As.drop i) cl)
 |0,i,cl,hi,h=>by rw[lD (by omega)];exact h
 |m+1,i,cl,hi,h=>by
  have hlt:i<As.length:=by omega
  obtain⟨b1,b2,b3⟩:=hb i hlt;have hc':=hcl i hlt;have hd:As.drop i=As.getD i (0,0)::As.drop (i+1):=by rw[drop_cons hlt,iB,c6 hlt];rfl
  rw[hd,eS,show f+i+1=f+(i+1) from rfl];refine tg hb hcl hN m (i+1) _ (by omega) ?_;generalize As.getD i (0,0)=x at *;split;rename_i hm;obtain⟨c1,c2⟩:=hc' hm;have k1:=lK (n:=n) (M:=M) (l:=2*((f+i:Nat):Int)) (by omega) (by omega) (.inr (by rw[show(2*((f+i:Nat):Int)/2).toNat=f+i by omega];exact hm));have k2:=lK (n:=n) (M:=M) (l:=2*((f+i:Nat):Int)+1) (by omega) (by omega) (.inr (by rw[show((2*((f+i:Nat):Int)+1)/2).toNat=f+i by omega];exact hm));have k3:=lK (n:=n) (M:=M) (l:=x.1) (by omega) (by omega) (.inr c1);have k4:=lK (n:=n) (M:=M) (l:=x.2) (by omega) (by omega) (.inr c2);have k5:=lK (n:=n) (M:=M) (l:=neg x.1) (by unfold neg;split<;>omega) (by rw[cq];omega) (.inr (by rw[cq];exact c1));have k6:=lK (n:=n) (M:=M) (l:=neg x.2) (by unfold neg;split<;>omega) (by rw[cq];omega) (.inr (by rw[cq];exact c2));unfold zf;refine qE (qE (qE h ?_) ?_) ?_;intro z hz;rcases eR.1 hz with rfl|hz;exact k2;rw[fQ]at hz;subst hz;exact k3;intro z hz;rcases eR.1 hz with rfl|hz;exact k2;rw[fQ]at hz;subst hz;exact k4;intro z hz;rcases eR.1 hz with rfl|hz;exact k1;rcases eR.1 hz with rfl|hz;exact k5;rw[fQ]at hz;subst hz;exact k6;exact h
end
end
section
def Gh(M V:Lb):Nat->Lb
 |0=>[]
 |k+1=>if M.getD (k+1) false=true then Gh M V k++[V.getD (k+1) false] else Gh M V k
theorem tT{M V:Lb}:∀k,(Gh M V k).length=bX M k
 |0=>rfl
 |k+1=>by rw[Gh,bX];split;rw[ey,tT k];rfl;rw[tT k];rfl
theorem Br{M V:Lb}:∀k j,1<=j->j<=k->M.getD j false=true->(Gh M V k).getD (bX M j-1) false=V.getD j false
 |0,j,j1,j2,_=>by omega
 |k+1,j,j1,j2,j3=>by have hp:=jy j3 (by omega);have hl:=tT (M:=M) (V:=V) k;rw[Gh];by_cases e:j=k+1;subst e;rw[aa j3,iB,vw (by rw[hp,hl];simp),hp,hl];simp;have ih:=Br (M:=M) (V:=V) k j j1 (by omega) j3;have hle:=(gP (M:=M) (a:=j) (b:=k) (by omega)).1;split;rw[iB,su (by omega),<-List.getD_eq_getElem?_getD];exact ih;exact ih
section
variable {I:Int} {Ls As:Lp} {Bs Cs:Li}
theorem never.step{bud v y j:Int}{i:Nat}{ls A R:Li}{L:Ll}(hi:i<ls.length)(hn:ls.length<=2)(hy:ls.getD i 0=y)(h0:0<=y/\y<=1000000)(hr:(y/2).toNat<R.length)
  (hj:R.getD (y/2).toNat 0=2*j) (hj2:0<=j/\j<=1000000) (hz:y<=1->j=0) (hA:A.length<=10) :
  aL.l0 bud (ls.length:Int) (i:Int) v A ls [R] L=if bp R y=0 then some (true,0) else aL.l0 bud (ls.length:Int) ((i+1:Nat):Int) v (if 1<bp R y then A++[bp R y] else A) ls [R] L:=by
 have e:=gV (row:=R) h0 hr hj hj2;have hw:=wi i (by omega);have hg:=Az hi;have hg2:=MT hi;rw[hy]at hg hg2;rw[dX.eq,iV h0.1 h0.2,Az hr,aj,s8]at e;rw[aL.l0_eq,cd,aa (by omega),hg,aj,jm,hg2,aj,cd];by_cases h1:y>1;rw[aa h1,show aD [R] 0=some R from rfl,aj,show([R]:Ll)[Int.toNat 0]?=some R from rfl,aj,iV h0.1 h0.2,Az hr,aj,e,ce];by_cases h2:bp R y=0;rw[aa h2,aa h2];rw[ab h2,ab h2,cd];by_cases h3:bp R y>1;rw[aa h3,aa (show 1<bp R y from h3),bH (by simp;omega),aj,hw];rw[ab h3,ab (show ¬1<bp R y from h3),hw];have hl:bp R y=y:=by unfold bp;rw[hj,hz (by omega)];omega
 rw[ab h1,hl,ce];by_cases h2:y=0;rw[aa h2,aa h2];rw[ab h2,ab h2,cd,ab h1,ab (show ¬1<y from h1),hw]
theorem tk{bud v:Int}{ls A:Li}{rs L:Ll}:aL.l0 bud (ls.length:Int) (ls.length:Int) v A ls rs L=(cS v L A bud).bind fun r=>if r.2=0 then some (!r.1.1,r.2) else some (false,r.2):=by rw[aL.l0_eq,cd,ab (by omega)];congr 1;funext r;rw[ce]
theorem xW{M:Lb}{f n:Nat}(hb:gI f As)(hcl:eV f As M)(hN:f+As.length=n+1):(eS M (bh M (n+1) n) f As []).length<=3*As.length:=by
 have g:=rj (M:=M) hb hcl hN As.length 0 [] (by omega);rw[jH]at g;simp only[Ds]at g;have le1:∀ls,sD ls<=1:=fun ls=>by unfold sD;split<;>(try split)<;>omega
 have le2:∀(r:Lp) (a:Nat),zP M a r<=3*r.length:=fun r=>by
  induction r with
  |nil=>intro a;simp[zP]
  |cons x r ih=>intro a;have h:=ih (a+1);have q1:=le1 [2*(a:Int)+1,x.1];have q2:=le1 [2*(a:Int)+1,x.2];have q3:=le1 [2*(a:Int),neg x.1,neg x.2];rw[zP,pI];unfold glen;split<;>omega
 have:=le2 As f;rw[g,E3];omega
theorem qN(h:cG I Ls As Bs Cs)(hc:aP I Ls As Bs Cs=0){a b bud:Int}(ha:db (size I Ls As) a)(hbl:db (size I Ls As) b)(hbud:0<=bud/\bud<=100000):
  ∃(is:Bool) (e:Int),aL I Ls As Bs Cs a b bud=some (is,e)/\(e=0->is=true->∀V,jL (bF I Ls) (size I Ls As).toNat As V->¬(bb V a=true/\bb V b=true)):=by
 have hb:=iX hc;obtain⟨k1,k2,_⟩:=aN hc;obtain⟨k2,k3,_⟩:=k2;have hf:((bF I Ls:Nat):Int)=1+I+Ls.length:=by unfold bF;omega
 have hsz:bF I Ls+As.length=(size I Ls As).toNat+1:=by unfold bF size;omega
 have hs0:0<=size I Ls As:=by unfold size;omega
 have hs1:(size I Ls As).toNat<=1000:=by unfold size;omega
 have hl:∀l∈[a,b],db (size I Ls As) l:=fun l hl=>by rcases eR.1 hl with rfl|hl;exact ha;rw[fQ]at hl;subst hl;exact hbl
 have hr:∀l∈[a,b],in64 l:=fun l hm=>by have:=cz.1 (hl l hm);unfold in64;omega
 have hof:=yn h (lits:=[a,b]) (by simp) hr hc hl rfl;have clo:eV (bF I Ls) As (jx I Ls As [a,b]):=fun k hk ht=>jW hb (dD _) (by rw[gR,qz];omega) k hk ht;have hmark:∀l∈[a,b],(jx I Ls As [a,b]).getD (l/2).toNat false=true:=fun l hm=>by refine nK hb (dD _) (by rw[gR,qz];omega) _ ?_;rw[tp (qz ..) (Co hc hl),kp ⟨l,hm,rfl⟩,Bool.true_or]
 have hcn:=gP (M:=jx I Ls As [a,b]) (a:=0) (b:=(size I Ls As).toNat) (by omega);rw[bX]at hcn;have hv:gD (bX (jx I Ls As [a,b]) (size I Ls As).toNat:Int):=⟨by omega,by omega⟩;have hL:=tg (M:=jx I Ls As [a,b]) hb clo hsz As.length 0 [] (by omega) (fun c h=>by cases h);have hlen:=xW (M:=jx I Ls As [a,b]) hb clo hsz;have hsat:=fun(W V:Lb) (hco:Dh (jx I Ls As [a,b]) (size I Ls As).toNat W V)=>sY hco hb clo hsz As.length 0 [] (by omega);simp only[jH,Ds]at hL hsat;rw[aL.eq,hof,aj];unfold L8 Qf;dsimp only;generalize jx I Ls As [a,b]=M at *;rw[cn,aa rfl];have hrow:=fun l (hm:l∈[a,b])=>jQ (n:=(size I Ls As).toNat) (M:=M) (l:=l) (cz.1 (hl l hm)).1 (by have:=cz.1 (hl l hm);omega) (.inr (hmark l hm));have hst:∀(l:Int) (i:Nat) (A:Li),i<[a,b].length->[a,b].getD i 0=l->l∈[a,b]->A.length<=10->_:=fun l i A hi hg hm hA=>
  never.step (bud:=bud) (v:=(bX M (size I Ls As).toNat:Int)) (L:=eS M (bh M ((size I Ls As).toNat+1) (size I Ls As).toNat) (bF I Ls) As []) (R:=bh M ((size I Ls As).toNat+1) (size I Ls As).toNat) (j:=(bX M (l/2).toNat:Int)) hi (by simp) hg
   ⟨(cz.1 (hl l hm)).1,by have:=cz.1 (hl l hm);omega⟩ (by rw[fB];have:=cz.1 (hl l hm);omega)
   (nc (by have:=cz.1 (hl l hm);omega) (.inr (hmark l hm))) ⟨by omega,by have:=(hrow l hm).2;omega⟩ (fun h1=>by have h0:=(cz.1 (hl l hm)).1;rw[show(l/2).toNat=0 by omega];rfl) hA
 have s0:=hst a 0 [] (by simp) rfl (by simp) (by simp);have s1:=fun A hA=>hst b 1 A (by simp) rfl (by simp) hA;rw[show((0:Nat):Int)=0 from rfl]at s0;have ra:=(hrow a (by simp)).1;have rb:=(hrow b (by simp)).1
 -- a literal that is no new one
 have hone:∀l∈[a,b],bp (bh M ((size I Ls As).toNat+1) (size I Ls As).toNat) l<=1->(l/2).toNat=0:=fun l hm h1=>by apply og;intro hne;have:=jy (hmark l hm) (by omega);have h0:=(cz.1 (hl l hm)).1;rw[(hrow l hm).1]at h1;omega
 have hzero:∀l∈[a,b],bp (bh M ((size I Ls As).toNat+1) (size I Ls As).toNat) l=0->∀V,jL (bF I Ls) (size I Ls As).toNat As V->bb V l=false:=fun l hm h1 V hV=>by have hj:=hone l hm (by omega);have h0:=(cz.1 (hl l hm)).1;have:=(hrow l hm).1;unfold bb;rw[hj,hV.zero,pd (by omega)];rfl
 rw[s0];by_cases z0:bp (bh M ((size I Ls As).toNat+1) (size I Ls As).toNat) a=0;rw[aa z0];exact⟨_,_,rfl,fun _ _ V hV hh=>by rw[hzero a (by simp) z0 V hV]at hh;cases hh.1⟩;rw[ab z0,s1 _ (by split<;>simp)];by_cases z1:bp (bh M ((size I Ls As).toNat+1) (size I Ls As).toNat) b=0;rw[aa z1];exact⟨_,_,rfl,fun _ _ V hV hh=>by rw[hzero b (by simp) z1 V hV]at hh;cases hh.2⟩;rw[ab z1];generalize hAe:(if 1<bp (bh M ((size I Ls As).toNat+1) (size I Ls As).toNat) b then(if 1<bp (bh M ((size I Ls As).toNat+1) (size I Ls As).toNat) a then[]++[bp (bh M ((size I Ls As).toNat+1) (size I Ls As).toNat) a] else[])++[bp (bh M ((size I Ls As).toNat+1) (size I Ls As).toNat) b] else(if 1<bp (bh M ((size I Ls As).toNat+1) (size I Ls As).toNat) a then[]++[bp (bh M ((size I Ls As).toNat+1) (size I Ls As).toNat) a] else[]))=A;have hAm:∀z∈A,∃l∈[a,b],z=bp (bh M ((size I Ls As).toNat+1) (size I Ls As).toNat) l/\1<z:=fun z hz=>by rw[<-hAe]at hz;split at hz;rename_i g2;rcases jR.1 hz with hz|hz;split at hz;rename_i g1;rw[Ac,fQ]at hz;exact⟨a,by simp,hz,by omega⟩;cases hz;rw[fQ]at hz;exact⟨b,by simp,hz,by omega⟩;split at hz;rename_i g1;rw[Ac,fQ]at hz;exact⟨a,by simp,hz,by omega⟩;cases hz
 have hAl:A.length<=2:=by rw[<-hAe];split<;>split<;>simp
 have hA64:∀z∈A,in64 z:=fun z hz=>by obtain⟨l,hm,rfl,h1⟩:=hAm z hz;have:=hrow l hm;unfold in64;omega
 obtain⟨x,e,e1,e2⟩:=rJ (A:=A) (L:=eS M (bh M ((size I Ls As).toNat+1) (size I Ls As).toNat) (bF I Ls) As []) (b:=bud) hv hbud hL (by have:=k3;omega) hA64;have hend:=tk (bud:=bud) (v:=(bX M (size I Ls As).toNat:Int)) (ls:=[a,b]) (A:=A) (rs:=[bh M ((size I Ls As).toNat+1) (size I Ls As).toNat]) (L:=eS M (bh M ((size I Ls As).toNat+1) (size I Ls As).toNat) (bF I Ls) As []);rw[show(((1:Nat)+1:Nat):Int)=(([a,b]:Li).length:Int) from rfl,hend,e1,aj];dsimp only;by_cases he:e=0;rw[aa he];refine⟨_,_,rfl,fun _ hi V hV hh=>?_⟩;obtain⟨_,f1,_⟩:=e2 he;have hx:x.1=false:=by cases hx:x.1 with
  |true=>rw[hx]at hi;cases hi
  |false=>rfl
 refine f1 hx (Gh M V (size I Ls As).toNat) ?_;have hco:Dh M (size I Ls As).toNat (Gh M V (size I Ls As).toNat) V:=⟨hV.zero,fun j j1 j2 j3=>Br _ j j1 j2 j3⟩;intro c hcm;rcases jR.1 hcm with hcm|hcm;refine(gN.2 fun z hz=>?_) c hcm;obtain⟨l,hm,rfl,h1⟩:=hAm z hz;have hln:=cz.1 (hl l hm);have h1l:1<=(l/2).toNat:=by apply og;intro hne;rw[(hrow l hm).1,show(l/2).toNat=0 by omega,bX]at h1;omega
 rw[sQ hco hln.1 (by omega) h1l (hmark l hm)];rcases eR.1 hm with rfl|hm;exact hh.1;rw[fQ]at hm;subst hm;exact hh.2;have ht:=py (M:=M) (f:=bF I Ls) hV.gate As.length 0 (by omega);rw[jH]at ht;have:=(hsat _ _ hco).trans ht;unfold sat at this;exact uQ.1 this c hcm;rw[ab he];exact⟨_,_,rfl,fun h=>absurd h he⟩
end
end
section
def fX(val:Nat->Bool)(x:Int):Bool:=!(val (x/2).toNat==decide (x%2=1))
theorem ig(val:Nat->Bool)(k:Nat):fX val (2*(k:Int))=val k:=by
 unfold fX;have h1:(2*(k:Int)/2).toNat=k:=by omega
 have h2:decide (2*(k:Int)%2=1)=false:=pd (by omega);rw[h1,h2];cases val k<;>rfl
theorem nw(val:Nat->Bool)(k:Nat):fX val (2*(k:Int)+1) = !val k:=by
 unfold fX;have h1:((2*(k:Int)+1)/2).toNat=k:=by omega
 have h2:decide ((2*(k:Int)+1)%2=1)=true:=kp (by omega);rw[h1,h2];cases val k<;>rfl
theorem tv{x:Int}(h:0<=x):∃k:Nat,x=2*(k:Int)\/x=2*(k:Int)+1:=⟨(x/2).toNat,by omega⟩
theorem Ai(k:Nat):cZ (2*(k:Int))=2*(k:Int)+1:=by unfold cZ;rw[aa (by omega)]
theorem Cj(k:Nat):cZ (2*(k:Int)+1)=2*(k:Int):=by unfold cZ;rw[ab (by omega)];omega
theorem iL{val:Nat->Bool}{x:Int}(h:0<=x):fX val (cZ x) = !fX val x:=by obtain⟨k,rfl|rfl⟩:=tv h;rw[Ai,nw,ig];rw[Cj,ig,nw,Bool.not_not]
theorem wH(g:Int)(ands:LP)(x y:Int):ands<+:(jA g ands x y).2:=by
 unfold jA;cases jz x y with
 |some v=>exact AR _
 |none=>
  cases cY g ands (max x y,min x y) with
  |some c=>exact AR _
  |none=>exact PT _ _
section
variable {gate N:Nat} {As:LP} {g:Li}
abbrev tW(gate:Nat)(As:LP)(g:Li)(n:Nat):Li:=(dC (2*(gate:Int)) gate As g n).1
abbrev bld(gate:Nat)(As:LP)(g:Li)(n:Nat):LP:=(dC (2*(gate:Int)) gate As g n).2
theorem zX(n:Nat):∃x,tW gate As g (n+1)=tW gate As g n++[x]:=by unfold tW;simp only[dC,pQ];split;exact⟨_,rfl⟩;split;exact⟨_,rfl⟩;exact⟨_,rfl⟩
theorem zW (n : Nat) : bld gate As g n <+: bld gate As g (n + 1) := by
  unfold bld;simp only [dC, pQ];split
  · exact AR _
  · split
    · exact AR _
    · exact wH _ _ _ _
theorem sZ {n m : Nat} (h : n ≤ m) : bld gate As g n <+: bld gate As g m ∧ tW gate As g n <+: tW gate As g m := by
  induction m with
  | zero => obtain rfl : n = 0 := by omega
            exact ⟨AR _, AR _⟩
  | succ m ih =>
    by_cases e : n = m + 1
    · subst e; exact ⟨AR _, AR _⟩
    · obtain ⟨h1, h2⟩ := ih (by omega)
      obtain ⟨x, hx⟩ := zX (gate := gate) (As := As) (g := g) m;exact ⟨h1.trans (zW m), h2.trans (by rw [hx]; exact PT _ _)⟩
theorem BV {a b : Li} (h : a <+: b) {k : Nat} (hk : k < a.length) : b.getD k 0 = a.getD k 0 := by obtain ⟨r, rfl⟩ := h;simp only [iB];rw [su hk]
theorem tL(hK:Kc N gate As g):∀n,n<=N->(∀v,v<n->0<=(tW gate As g n).getD v 0/\(tW gate As g n).getD v 0/2<((gate+(bld gate As g n).length:Nat):Int)) /\
  ∀(k:Nat) (p:Int×Int),(bld gate As g n)[k]?=some p->0<=p.2/\p.2<p.1/\p.1/2<((gate+k:Nat):Int):=by
 intro n
 induction n with
 |zero=>intro _;exact⟨fun v h=>by omega,fun k p h=>by simp[bld,dC]at h⟩
 |succ n ih=>
  intro hn;obtain⟨ih1,ih2⟩:=ih (by omega);have hlen:(tW gate As g n).length=n:=dZ _ _ _ _ n;have hat:∀x:Int,0<=x->x/2<(n:Int)->0<=kB (tW gate As g n) x/\kB (tW gate As g n) x/2<((gate+(bld gate As g n).length:Nat):Int):=fun x h0 h1=>by obtain⟨q1,q2⟩:=ih1 (x/2).toNat (by omega);unfold kB gG;split;exact⟨q1,q2⟩;unfold cZ;split<;>omega
  have old:∀(m:Nat),(bld gate As g n).length<=m->∀v,v<n->0<=(tW gate As g n).getD v 0/\(tW gate As g n).getD v 0/2<((gate+m:Nat):Int):=fun m hm v hv=>by obtain⟨q1,q2⟩:=ih1 v hv;exact⟨q1,by omega⟩
  unfold tW bld at *;simp only[dC,pQ];rw[dZ];have snoc:∀(m:Nat) (x:Int),(dC (2*(gate:Int)) gate As g n).2.length<=m->0<=x/\x/2<((gate+m:Nat):Int)->∀v,v<n+1->0<=((dC (2*(gate:Int)) gate As g n).1++[x]).getD v 0/\((dC (2*(gate:Int)) gate As g n).1++[x]).getD v 0/2<((gate+m:Nat):Int):=fun m x hm hx v hv=>by rw[lN,hlen];by_cases e:v<n;rw[aa e];exact old m hm v e;rw[ab e,aa (by omega)];exact hx
  by_cases h1:0<=g.getD n 0;rw[aa h1];have h2:=(hK.giv n (by omega)).1;exact⟨snoc _ _ (dD _) (hat _ h1 (by omega)),ih2⟩
  .rw[ab h1];by_cases h2:n<gate;rw[aa h2];exact⟨snoc _ _ (dD _) (by omega),ih2⟩
   .rw[ab h2];simp only;have hk:n-gate<As.length:=by have:=hK.len;omega
    have hp:As[n-gate]?=some (As.getD (n-gate) (0,0)):=by rw[c6 hk];simp[List.getD,c6 hk]
    obtain⟨q0,q1,q2⟩:=hK.gates _ _ hp;have e9:(gate:Int)+((n-gate:Nat):Int)=n:=by omega
    rw[e9]at q2;have a1:=hat (As.getD (n-gate) (0,0)).1 (by omega) q2;have a2:=hat (As.getD (n-gate) (0,0)).2 q0 (by omega);generalize kB (dC (2*(gate:Int)) gate As g n).1 (As.getD (n-gate) (0,0)).1=x at a1 ⊢;generalize kB (dC (2*(gate:Int)) gate As g n).1 (As.getD (n-gate) (0,0)).2=y at a2 ⊢;unfold jA;cases hs:jz x y with
    |some v=>refine⟨snoc _ _ (dD _) ?_,ih2⟩;unfold jz at hs;split at hs;cases hs;have:=hK.pos;constructor<;>simp only[]<;>omega;split at hs;cases hs;exact a2;split at hs;cases hs;exact a1;cases hs
    |none=>
     obtain⟨_,_,_,_,hne,_⟩:=qj hs;simp only[];cases hkn:cY (2*(gate:Int)) (dC (2*(gate:Int)) gate As g n).2 (max x y,min x y) with
     |some c=>obtain⟨k,k1,k2,_⟩:=ku _ _ _ _ hkn;refine⟨snoc _ _ (dD _) (by simp only[];omega),ih2⟩
     |none=>
      refine⟨snoc _ _ (by simp) (by simp only[ey,gC];omega),fun k p hp=>?_⟩;rcases iQ k (dC (2*(gate:Int)) gate As g n).2.length with hlt|hge;rw[su hlt]at hp;exact ih2 k p hp;rw[vw hge]at hp;have:k-(dC (2*(gate:Int)) gate As g n).2.length=0:=by rcases NH (k-(dC (2*(gate:Int)) gate As g n).2.length) with h|h;exact h;rw[qA (by simp;omega)]at hp;cases hp
      rw[this]at hp;simp at hp;subst hp;simp only[];omega
theorem AJ(hK:Kc N gate As g):(bld gate As g N).length<=As.length:=by have:=(p5 hK N (dD _)).ands;have:=hK.len;unfold bld;omega
end
end
section
abbrev U(x:Int):BitVec 64:=BitVec.ofInt 64 x
abbrev O9(x:Int):Prop:=0<=x/\x<18446744073709551616
theorem Qd{x:Int}(h:O9 x):wrap .u64 x=x:=by rw[IntKind.wrap_u64];omega
theorem Iy(b:BitVec 64):O9 (b.toNat:Int):=⟨Int.natCast_nonneg _,by have:=b.isLt;omega⟩
theorem Jh(a b:Int):iu .u64 a b=((U a&&&U b).toNat:Int):=Qd (Iy (U a&&&U b))
theorem Jt{x:Int}(h:O9 x):((U x).toNat:Int)=x:=by show((BitVec.ofInt 64 x).toNat:Int)=x;rw[P8];omega
section
variable {all:Int} {gate:Nat} {nv:Int->Int->Option (Bool×Int)} {s:Li}
end
end
section
variable {I:Int} {Ls As:Lp} {Bs Cs:Li}
theorem Pq{n:Nat}(hn:n<=3001):nO 1 (n:Int)=some (0,(n:Int)):=by
 have b1:iu .u64 1 4294967295=1:=by decide
 have b2:iu .u64 (n:Int) 4294967295=n:=by
  rw[Jh];have h2:(U 4294967295)=BitVec.ofNat 64 (2^32-1):=by decide
  have h1:((U (n:Int))&&&U 4294967295).toNat=n:=by
   rw[Q5];have e1:(U (n:Int)).toNat=n:=by have:=Jt (x:=(n:Int)) (by constructor<;>omega);omega
   have e2:(U 4294967295).toNat=2^32-1:=by decide
   rw[e1,e2,Nat.and_two_pow_sub_one_eq_mod];omega
  rw[h1]
 have s0:gT .u64 1 32=0:=by decide
 have s1:gT .u64 (n:Int) 32=0:=by unfold gT;rw[show min (Int.toNat 32) IntKind.u64.bits=32 from rfl,Ph _ (by decide)];omega
 have w:wrap .u64 (n:Int)=n:=Qd (by constructor<;>omega);have z:gT .u64 0 32=0:=by decide
 have z2:iu .u64 0 4294967295=0:=by decide
 have z3:wrap .u64 0=0:=by decide
 rw[nO.eq,jZ.eq,aj];simp only[b1,b2,s0,s1,Int.one_mul,w,Int.zero_mul,Int.mul_zero,z3,Int.zero_add,OE,z,z2]
theorem qG{g:Int}:∀(l:LP) (k:Nat),uj (g+(k:Int)) l=true->Fz g k l=true
 |[],k,_=>rfl
 |x::r,k,h=>by unfold uj at h;simp only[eJ,ir]at h;obtain⟨⟨⟨h1,h2⟩,h3⟩,h4⟩:=h;unfold Fz;simp only[eJ,ir];exact⟨⟨⟨h1,h2⟩,h3⟩,qG r (k+1) (by push_cast;rw[show g+((k:Int)+1)=g+(k:Int)+1 by omega];exact h4)⟩
theorem Cc{g:Int}:∀(l:LP) (k:Nat),(∀(j:Nat) (p:Int×Int),l[j]?=some p->0<=p.2/\p.2<=p.1/\p.1/2<g+((k+j:Nat):Int))->uj (g+(k:Int)) l=true
 |[],k,_=>rfl
 |x::r,k,h=>by
  unfold uj;simp only[eJ,ir];obtain⟨h1,h2,h3⟩:=h 0 x rfl;refine⟨⟨⟨h1,h2⟩,by simpa using h3⟩,?_⟩;have:=Cc (g:=g) r (k+1) (fun j p hp=>by have:=h (j+1) p (by simpa using hp);rw[show k+1+j=k+(j+1) by omega];exact this)
  push_cast at this
  rw[show g+(k:Int)+1=g+((k:Int)+1) by omega];exact this
theorem Iv{g:Int}:∀(l:LP),uj g l=true->∀(k:Nat) (p:Int×Int),l[k]?=some p->0<=p.2/\p.2<=p.1/\p.1/2<g+(k:Int):=fun l h k p hp=>by have:=zg (qG (g:=g) l 0 (by simpa using h)) k p hp;simpa using this
theorem qV{n:Int}{l:Li}(h:∀x∈l,db n x):vH (n+1) l=true:=by unfold vH;rw[uQ];intro x hx;obtain⟨h1,h2⟩:=h x hx;simp only[eJ,ir];omega
theorem zb{i:Int}:∀(l:Li) (v:Nat),(∀(j:Nat) (x:Int),l[j]?=some x -> -1<=x/\x<2*((v+j:Nat):Int)/\(0<=x->i<((v+j:Nat):Int)))->Fw i v l=true
 |[],v,_=>rfl
 |x::r,v,h=>by unfold Fw;simp only[eJ,Du,ir];obtain⟨h1,h2,h3⟩:=h 0 x rfl;refine⟨⟨⟨h1,by simpa using h2⟩,?_⟩,zb r (v+1) (fun j y hy=>by have:=h (j+1) y (by simpa using hy);rw[show v+1+j=v+(j+1) by omega];exact this)⟩;by_cases h0:x<0;exact .inl h0;exact .inr (by simpa using h3 (by omega))
def nZ(I:Int)(Ls As:LP)(g:Li):Prop:=(g.length:Int)=size I Ls As+1/\∀(v:Nat) (x:Int),g[v]?=some x -> -1<=x/\x<2*(v:Int)/\(0<=x->I<(v:Int))
theorem lP(h:cG I Ls As Bs Cs)(hc:aP I Ls As Bs Cs=0){g:Li}(hg:nZ I Ls As g):sE I Ls As Bs Cs g=true/\Kc g.length (dR I Ls) As g:=by
 obtain⟨k1,⟨k2,k3,k4,k5⟩,c1,c2,c3,ho⟩:=aN hc;obtain⟨hl,hg⟩:=hg;have hgate:((dR I Ls:Nat):Int)=1+I+Ls.length:=by unfold dR;omega
 unfold size at hl;have hlen:g.length=dR I Ls+As.length:=by omega
 have ho':uj ((dR I Ls:Nat):Int) As=true:=by rw[hgate];exact ho
 have hN:(g.length:Int)=size I Ls As+1:=by unfold size;omega
 refine⟨?_,hlen,fun v hv=>?_,fun k p hp=>Iv As ho' k p hp,by omega,by omega,rfl,by omega⟩;unfold sE;simp only[eJ,ir];refine⟨⟨⟨⟨⟨⟨⟨by omega,by omega⟩,by omega⟩,by omega⟩,by omega⟩,by omega⟩,hlen⟩,⟨⟨⟨⟨qG As 0 (by simpa using ho'),zb g 0 (fun j x hx=>by have:=hg j x hx;rw[Dk];exact this)⟩,?_⟩,?_⟩,?_⟩⟩;rw[hN];refine qV fun x hx=>?_;obtain⟨y,hy,rfl⟩:=jC.1 hx;exact(c3 y hy).1;rw[hN];exact qV c1;rw[hN];exact qV c2;have:=hg v (g.getD v 0) (by rw[c6 hv];simp[List.getD,c6 hv]);exact⟨this.2.1,this.1⟩
theorem sw(h:cG I Ls As Bs Cs)(hc:aP I Ls As Bs Cs=0){g:Li}(hg:nZ I Ls As g):jU I Ls As Bs Cs g=some (wB I Ls As Bs Cs g):=by
 have hv:=fj h;rw[aa hc]at hv;unfold size at hv;have hask:bt E (DM E) 48 [bU I Ls As Bs Cs] [.d (.int .i64),.d (.int .i64)]=some (I+(Ls.length:Int)+(As.length:Int),(0:Int)):=(tQ (by kernel_rfl)).trans hv;unfold jU;rw[F5 (k:=zA) (by kernel_rfl)];show nN (bt E (DM E)) [bU I Ls As Bs Cs,.d (.list (.int .i64)) g]=_;show(match bt E (DM E) 48 [bU I Ls As Bs Cs] [.d (.int .i64),.d (.int .i64)]with
  |some r=>if(show Int×Int from r)=((I+(Ls.length:Int)+(As.length:Int)),(0:Int))/\sE I Ls As Bs Cs g=true then some (wB I Ls As Bs Cs g) else none
  |none=>none)=_
 rw[hask];exact aa ⟨rfl,(lP h hc hg).1⟩
end
section
variable {I:Int} {Ls As:Lp} {Bs Cs:Li}
abbrev bTq(I:Int)(Ls As:LP)(g:Li):Li:=(pL I Ls As g).1
abbrev mu(I:Int)(Ls As:LP)(g:Li):LP:=Ls.map fun x=>(kB (bTq I Ls As g) x.1,x.2)
abbrev oJ(I:Int)(Ls As:LP)(g:Li):LP:=(pL I Ls As g).2
abbrev bL(I:Int)(Ls As:LP)(g:Li)(l:Li):Li:=l.map (kB (bTq I Ls As g))
theorem F1{t:Li}{x:Int}{n:Nat}(h:0<=t.getD (x/2).toNat 0/\t.getD (x/2).toNat 0/2<(n:Int)):0<=kB t x/\kB t x/2<(n:Int):=by unfold kB gG;split;exact h;unfold cZ;split<;>omega
theorem AH(h:cG I Ls As Bs Cs)(hc:aP I Ls As Bs Cs=0){g:Li}(hg:nZ I Ls As g){x:Int}(hx:db (size I Ls As) x):db (size I (mu I Ls As g) (oJ I Ls As g)) (kB (bTq I Ls As g) x):=by
 obtain⟨k1,_⟩:=aN hc;obtain⟨_,hK⟩:=lP h hc hg;have hl:=hg.1;have:=F1 (x:=x) ((tL hK g.length (dD _)).1 (x/2).toNat (by unfold db at hx;omega));have hgate:((dR I Ls:Nat):Int)=1+I+Ls.length:=by unfold dR;omega
 refine⟨this.1,?_⟩;have h2:kB (bTq I Ls As g) x/2<((dR I Ls+(oJ I Ls As g).length:Nat):Int):=this.2;unfold size;rw[pH];omega
theorem tK(h:cG I Ls As Bs Cs)(hc:aP I Ls As Bs Cs=0){g:Li}(hg:nZ I Ls As g):
  cG I (mu I Ls As g) (oJ I Ls As g) (bL I Ls As g Bs) (bL I Ls As g Cs)/\aP I (mu I Ls As g) (oJ I Ls As g) (bL I Ls As g Bs) (bL I Ls As g Cs)=0/\(oJ I Ls As g).length<=As.length:=by
 obtain⟨k1,⟨k2,k3,k4,k5⟩,c1,c2,c3,ho⟩:=aN hc;obtain⟨_,hK⟩:=lP h hc hg;have hfew:(oJ I Ls As g).length<=As.length:=AJ hK;have hgate:((dR I Ls:Nat):Int)=1+I+Ls.length:=by unfold dR;omega
 have hsz:size I (mu I Ls As g) (oJ I Ls As g)<=1000:=by unfold size;rw[pH];omega
 have hlit:∀x,db (size I Ls As) x->db (size I (mu I Ls As g) (oJ I Ls As g)) (kB (bTq I Ls As g) x):=fun x hx=>AH h hc hg hx;have hgates:=(tL hK g.length (dD _)).2;have in_of:∀x,db (size I (mu I Ls As g) (oJ I Ls As g)) x->in64 x:=fun x hx=>by unfold db at hx;unfold in64;omega
 have d1:∀x∈bL I Ls As g Bs,db (size I (mu I Ls As g) (oJ I Ls As g)) x:=fun x hx=>by obtain⟨y,hy,rfl⟩:=jC.1 hx;exact hlit y (c1 y hy)
 have d2:∀x∈bL I Ls As g Cs,db (size I (mu I Ls As g) (oJ I Ls As g)) x:=fun x hx=>by obtain⟨y,hy,rfl⟩:=jC.1 hx;exact hlit y (c2 y hy)
 have d3:∀x∈mu I Ls As g,xR (size I (mu I Ls As g) (oJ I Ls As g)) x:=fun x hx=>by obtain⟨y,hy,rfl⟩:=jC.1 hx;exact⟨hlit y.1 (c3 y hy).1,(c3 y hy).2⟩
 have d4:uj (1+I+((mu I Ls As g).length:Int)) (oJ I Ls As g)=true:=by rw[pH,<-hgate];have:=Cc (g:=((dR I Ls:Nat):Int)) (oJ I Ls As g) 0 (fun j p hp=>by have:=hgates j p hp;rw[Dk];push_cast at this;exact⟨this.1,by omega,this.2.2⟩);simpa using this
 refine⟨⟨h.i,⟨by rw[pH];omega,fun x hx=>⟨in_of _ (d3 x hx).1,by have:=(d3 x hx).2;unfold in64;omega⟩⟩,⟨by omega,fun x hx=>?_⟩,⟨by rw[pH];omega,fun x hx=>in_of _ (d1 x hx)⟩,⟨by rw[pH];omega,fun x hx=>in_of _ (d2 x hx)⟩⟩,?_,hfew⟩;obtain⟨k,hk⟩:=P4 hx;have:=hgates k x hk;have hk2:k<(oJ I Ls As g).length:=(tR.1 hk).1;unfold in64;omega;unfold aP;rw[ab (by omega),aa ⟨k2,by rw[pH];omega,by rw[pH];exact k4,by rw[pH];exact k5⟩,aa ⟨d1,d2,d3,d4⟩]
end
section
section
variable {I:Int} {Ls As:Lp} {Bs Cs:Li}
end
end
section
theorem vt.loop{a:Li}(hn:a.length<=100000):∀(n i:Nat),i+n=a.length->aA.l0 a a (i:Int)=some true
 |0,i,hi=>by rw[aA.l0_eq,cd,ab (by omega)]
 |n+1,i,hi=>by
  have hlt:i<a.length:=by omega
  have hw:=wi i (by omega);rw[aA.l0_eq,cd,aa (by omega),bu hlt,aj,aj,cn,aa rfl,hw,vt.loop hn n (i+1) (by omega)]
theorem ma{a:Li}(hn:a.length<=100000):aA a a=some true:=by rw[aA.eq,cn,aa rfl];exact vt.loop hn a.length 0 (by omega)
section
variable {I:Int} {Ls As:Lp} {Bs Cs:Li}
end
end
section
variable {I:Int} {Ls As:Lp} {Bs Cs:Li}
end
section
variable {I:Int} {Ls As:Lp} {Bs Cs:Li} {f n:Nat}
section
variable {V:Lb} {s:Int} {b:Int} {L A:Lp} {P Q:Li}
end
section
variable {I:Int} {Ls As:Lp} {Bs Cs:Li}
end
end
section
variable {V:Lb} {s:Int} {b:Int} {L A:Lp} {P Q:Li}
end
section
variable {I:Int} {Ls As:Lp} {Bs Cs:Li}
end
section
variable {v:Int} {L:Ll} {A:Li}
theorem zS{n:Nat}{t s T:Li}{log:Ll}{l:Int}(hp:af L (v+1).toNat t=(T,-1))(hw:fp A T=some l)(h0:¬cH T l=0):gY v A (n+1) L t s log=gY v A n L (T++[l]) (s++[(T.length:Int)]) log:=by rw[gY,hp,ab (by omega),hw];dsimp only;rw[ab h0]
theorem BA{n:Nat}{t s T:Li}{log:Ll}(hp:af L (v+1).toNat t=(T,-1))(hw:fp A T=none)(hx:lf v T=0):gY v A (n+1) L t s log=(true,T,log,log.length):=by rw[gY,hp,ab (by omega),hw];dsimp only;rw[aa hx]
end
section
theorem I9{t m:Int}(h0:0<=t)(h1:t<=1000000)(m0:0<=m)(m1:m<=1000000):dj .i64 t (iu .i64 m 1)=gG t m:=by have e1:iu .i64 m 1=m%2:=Oz m0 m1;rw[e1];exact DP h0 h1 m0
theorem iZ{t:Int}(h0:0<=t)(h1:t<=1000000):dj .i64 t 1=cZ t:=by have:=DP (t:=t) (l:=1) h0 h1 (by omega);exact this
theorem qO{s x:Int}(h:db s x):db s (cZ x):=by rw[cz]at *;unfold cZ;split<;>omega
theorem Aj{s x m:Int}(h:db s x):db s (gG x m):=by unfold gG;split;exact h;exact qO h
theorem sN{V:Lb}{x:Int}(h:0<=x):bb V (cZ x) = !bb V x:=iL (val:=fun v=>V.getD v false) h
def pJ(h:Int)(g:Li)(m:Int):Li:=g.set (m/2).toNat (gG h m)
def xV(g:Li)(c:Li):Li:=match c with
 |[]=>g
 |h::ms=>ms.foldl (pJ h) g
def vR(n:Nat)(l:LL):Li:=l.foldl xV (List.replicate n (-1))
def p9(I:Int)(Ls:LP)(m:Int):Prop:=∃(k:Nat) (p:Int×Int),Ls[k]?=some p/\(p.2=0\/p.2=1)/\m=2*(I+1+(k:Int))+p.2
structure sd(I:Int)(Ls:LP)(c:Li):Prop where
 ne:c≠[]
 mem:∀m∈c,m=0\/p9 I Ls m
 up:c.Pairwise (fun x y=>x/2<y/2)
def fh(l:LL):Nat:=(l.map List.length).sum
def wI(I:Int)(Ls:LP)(l:LL):Prop:=(∀c∈l,sd I Ls c)/\fh l<=Ls.length+1
theorem l5{l:LL}(h:∀c∈l,c≠[]):l.length<=fh l:=by
 induction l with
 |nil=>simp[fh]
 |cons c l ih=>have:=ih fun c hc=>h c (jI _ hc);have h2:=Mt.2 (h c (ix ..));simp only[fh,xe,LM,pI]at *;omega
theorem rW{l:LL}{c:Li}(h:c∈l):c.length<=fh l:=by
 induction l with
 |nil=>cases h
 |cons d l ih=>simp only[fh,xe,LM]at *;rcases eR.1 h with rfl|h;omega;have:=ih h;omega
theorem vh{l m:LL}:fh (l++m)=fh l+fh m:=by simp[fh]
section
variable {I:Int} {Ls As:Lp} {Bs Cs:Li}
theorem gw(hc:aP I Ls As Bs Cs=0){m:Int}(h:p9 I Ls m):2*(I+1)<=m/\m<=2*(I+Ls.length)+1/\I<m/2:=by obtain⟨k,p,hp,h2,rfl⟩:=h;obtain⟨k1,_⟩:=aN hc;have hk:=(tR.1 hp).1;omega
theorem Am(hc:aP I Ls As Bs Cs=0){m:Int}(h:m=0\/p9 I Ls m):0<=m/\m<=2*size I Ls As+1:=by obtain⟨k1,_⟩:=aN hc;unfold size;rcases h with rfl|h;omega;have:=gw hc h;omega
def GP(I:Int)(n:Nat)(g:Li):Prop:=g.length=n/\∀(v:Nat) (x:Int),g[v]?=some x -> -1<=x/\x<2*(v:Int)/\(0<=x->I<(v:Int))
theorem GP.set{n:Nat}{g:Li}{h m:Int}(hg:GP I n g)(h0:0<=h)(h1:h/2<m/2)(h2:I<m/2):GP I n (pJ h g m):=by refine⟨by unfold pJ;rw[lY];exact hg.1,fun v x hx=>?_⟩;unfold pJ at hx;rw[zH]at hx;split at hx;rename_i he;split at hx;cases hx;unfold gG cZ;split;omega;split<;>omega;cases hx;exact hg.2 v x hx
theorem oT{h:Int}{ms:Li}(hw:sd I Ls (h::ms))(hc:aP I Ls As Bs Cs=0):0<=h/\h<=2*size I Ls As+1/\∀m∈ms,p9 I Ls m/\h/2<m/2:=by have hb:=Am hc (hw.mem h (ix ..));refine⟨hb.1,hb.2,fun m hm=>?_⟩;have hlt:=(xg.1 hw.up).1 m hm;refine⟨?_,hlt⟩;rcases hw.mem m (jI _ hm) with rfl|h';omega;exact h'
theorem GP.cls{n:Nat}(hc:aP I Ls As Bs Cs=0){c:Li}(hw:sd I Ls c){g:Li}(hg:GP I n g):GP I n (xV g c):=by
 match c,hw with
 |[],_=>exact hg
 |h::ms,hw=>
  obtain⟨h0,_,hm⟩:=oT hw hc;show GP I n (ms.foldl (pJ h) g);clear hw
  induction ms generalizing g with
  |nil=>exact hg
  |cons m ms ih=>have h1:=hm m (ix ..);have h2:=gw hc h1.1;exact ih (hg.set h0 h1.2 h2.2.2) fun m' hm'=>hm m' (jI _ hm')
theorem GP.all{n:Nat}(hc:aP I Ls As Bs Cs=0){l:LL}(hw:∀c∈l,sd I Ls c){g:Li}(hg:GP I n g):GP I n (l.foldl xV g):=by
 induction l generalizing g with
 |nil=>exact hg
 |cons c l ih=>exact ih (fun c' hc'=>hw c' (jI _ hc')) (hg.cls hc (hw c (ix ..)))
theorem GP.none{n:Nat}:GP I n (List.replicate n (-1)):=by
 refine⟨qz ..,fun v x hx=>?_⟩;have hv:v<n:=by simpa using(tR.1 hx).1
 rw[Po hv]at hx;cases hx;omega
theorem za(hc:aP I Ls As Bs Cs=0){l:LL}(hw:∀c∈l,sd I Ls c):nZ I Ls As (vR ((size I Ls As).toNat+1) l):=by obtain⟨k1,_⟩:=aN hc;have h:=GP.all hc hw (GP.none (I:=I) (n:=(size I Ls As).toNat+1));refine⟨?_,h.2⟩;have e:(vR ((size I Ls As).toNat+1) l).length=(size I Ls As).toNat+1:=h.1;rw[e];unfold size;omega
theorem qY.loop1(hc:aP I Ls As Bs Cs=0){h:Int}{ms:Li}{l:LL}{x20 x21 b1:Int}{o3 o4:LP}{o5 o6:Li}(h0:0<=h/\h<=1000000)(hms:ms.length<=100000){n:Nat}(hn:n<=100000)(hm:∀m∈ms,0<=m/\m/2<(n:Int)):∀(k i:Nat) (g:Li),i+k=ms.length->g.length=n ->
  aJ.l1 (h::ms) l x20 x21 ms (ms.length:Int) (i:Int) I Ls As Bs Cs b1 g o3 o4 o5 o6=aJ.l0 l x20 (wrap .i64 (x21+1)) I Ls As Bs Cs b1 ((ms.drop i).foldl (pJ h) g) o3 o4 o5 o6
 |0,i,g,hi,hg=>by rw[aJ.l1_eq,cd,ab (by omega),lD (by omega)];rfl
 |k+1,i,g,hi,hg=>by
  have hlt:i<ms.length:=by omega
  have hw:=wi i (by omega);have hx:=hm _ (dW hlt);have hl:(ms[i]/2).toNat<g.length:=by omega
  rw[aJ.l1_eq,cd,aa (by omega),bu hlt,aj,show aD (h::ms) 0=some h from rfl,aj,iV hx.1 (by omega),bu hl,aj,jm,c6 hl,aj,I9 h0.1 h0.2 hx.1 (by omega),hw];rw[qY.loop1 hc h0 hms hn hm k (i+1) _ (by omega) (by rw[lY];exact hg)];congr 1;rw[show ms.drop i=ms[i]::ms.drop (i+1) from(Io ..).symm,ue];rfl
theorem sS{α:Type}{h:α}{ms:List α}:kb (h::ms) 1 (List.length (h::ms):Int)=some ms:=by unfold kb;rw[aa (by simp only[pI];omega)];simp
theorem qY.loop0(hc:aP I Ls As Bs Cs=0){l:LL}(hw:wI I Ls l){b1:Int}{o3 o4:LP}{o5 o6:Li}{n:Nat}(hn:(n:Int)=size I Ls As+1):∀(k i:Nat) (g:Li),i+k=l.length->g.length=n ->
  aJ.l0 l (l.length:Int) (i:Int) I Ls As Bs Cs b1 g o3 o4 o5 o6=(jU I Ls As Bs Cs ((l.drop i).foldl xV g)).bind fun r4_=>some (r4_.1.1,(r4_.1.2.1,(r4_.1.2.2.1,(r4_.1.2.2.2.1,r4_.1.2.2.2.2))))
 |0,i,g,hi,hg=>by rw[aJ.l0_eq,cd,ab (by omega),lD (by omega)];rfl
 |k+1,i,g,hi,hg=>by
  obtain⟨k1,⟨k2,k3,k4,k5⟩,_⟩:=aN hc;have hlt:i<l.length:=by omega
  have hll:=kz (l5 fun c hc=>(hw.1 c hc).ne) hw.2;have hw1:=wi i (by omega);have hcl:=hw.1 _ (dW hlt);have htot:=kz (rW (dW hlt)) hw.2;have hd:l.drop i=l[i]::l.drop (i+1):=(Io ..).symm;rw[aJ.l0_eq,cd,aa (by omega),bu hlt,aj,hd,ue];generalize l[i]=c at hcl htot ⊢
  match c,hcl,htot with
  |[],hcl,_=>exact absurd rfl hcl.ne
  |h::ms,hcl,htot=>
   obtain⟨h0,h1,hm⟩:=oT hcl hc;have hs1:size I Ls As<=1000:=by unfold size;omega
   rw[sS,aj];rw[pI]at htot;have g1:=qY.loop1 (Bs:=Bs) (Cs:=Cs) hc (h:=h) (ms:=ms) (l:=l) (x20:=(l.length:Int)) (x21:=(i:Int)) (b1:=b1) (o3:=o3) (o4:=o4) (o5:=o5) (o6:=o6) ⟨h0,by omega⟩ (by omega) (n:=n) (by omega) (fun m hm'=>by have:=gw hc (hm m hm').1;unfold size at hn;omega) ms.length 0 g (by omega) hg;rw[show((0:Nat):Int)=0 from rfl,jH,hw1]at g1;rw[g1];refine qY.loop0 hc hw hn k (i+1) _ (by omega) ?_;clear g1 hm hcl htot
   induction ms generalizing g with
   |nil=>exact hg
   |cons m ms ih=>exact ih (pJ h g m) (by unfold pJ;rw[lY];exact hg)
def lB(I:Int)(Ls As:LP)(Bs Cs:Li)(l:LL):gB:=(wB I Ls As Bs Cs (vR ((size I Ls As).toNat+1) l)).1
theorem Ii{n:Nat}(hn:1<=n/\n<=3001):dS [-1] (n:Int)=some (List.replicate n (-1)):=by
 have hask:bt E (DM E) 69 [.d (.int .u64) (1:Int),.d (.int .u64) (n:Int)] [.d (.int .u64),.d (.int .u64)]=some ((0:Int),(n:Int)):=(tQ (by kernel_rfl)).trans (Pq hn.2);unfold dS;rw[F5 (k:=GE) (by kernel_rfl)];show(match bt E (DM E) 69 [.d (.int .u64) (1:Int),.d (.int .u64) (n:Int)] [.d (.int .u64),.d (.int .u64)]with
  |some r=>if([-1]:Li)=[-1]/\1<=(n:Int)/\(n:Int)<=3001/\(show Int×Int from r)=((0:Int),(n:Int)) then some (List.replicate (n:Int).toNat (-1)) else none
  |none=>none)=_
 rw[hask];exact(aa ⟨rfl,by omega,by omega,rfl⟩).trans (by rw[jm])
theorem oA(h:cG I Ls As Bs Cs)(hc:aP I Ls As Bs Cs=0){l:LL}(hw:wI I Ls l):aJ I Ls As Bs Cs (size I Ls As) l=some (lB I Ls As Bs Cs l):=by
 obtain⟨k1,⟨k2,k3,k4,k5⟩,_⟩:=aN hc;have hs1:0<=size I Ls As/\size I Ls As<=1000:=by unfold size;omega
 have hn:wrap .i64 (size I Ls As+1)=(((size I Ls As).toNat+1:Nat):Int):=by rw[wr]<;>omega
 rw[aJ.eq,hn,Ii ⟨by omega,by omega⟩,aj];have:=qY.loop0 (b1:=0) (o3:=[]) (o4:=[]) (o5:=[]) (o6:=[]) hc hw (n:=(size I Ls As).toNat+1) (by omega) l.length 0 (List.replicate ((size I Ls As).toNat+1) (-1)) (by omega) (by simp);rw[show((0:Nat):Int)=0 from rfl,jH]at this;rw[this];have hb:=sw h hc (za hc hw.1);unfold vR at hb;rw[hb,aj];rfl
theorem G7(h:cG I Ls As Bs Cs)(hc:aP I Ls As Bs Cs=0){l:LL}(hw:wI I Ls l):∃g,g=vR ((size I Ls As).toNat+1) l/\nZ I Ls As g/\lB I Ls As Bs Cs l=(I,mu I Ls As g,oJ I Ls As g,bL I Ls As g Bs,bL I Ls As g Cs):=
 ⟨_,rfl,za hc hw.1,rfl⟩
theorem xX(h:cG I Ls As Bs Cs)(hc:aP I Ls As Bs Cs=0){a b bud:Int}(ha:db (size I Ls As) a)(hb:db (size I Ls As) b)(hbud:0<=bud/\bud<=100000):
  ∃(t:Bool) (e:Int),cr I Ls As Bs Cs a b bud=some (t,e)/\(e=0->t=true->∀V,jL (bF I Ls) (size I Ls As).toNat As V->bb V a=bb V b):=by
 obtain⟨k1,⟨k2,k3,k4,k5⟩,_⟩:=aN hc;have hs1:size I Ls As<=1000:=by unfold size;omega
 have a1:=cz.1 ha;have b1:=cz.1 hb;rw[cr.eq,iZ a1.1 (by omega),iZ b1.1 (by omega),ce];by_cases e1:a=b;rw[aa e1];exact⟨_,_,rfl,fun _ _ V _=>by rw[e1]⟩
 .rw[ab e1,ce];by_cases e2:a=cZ b;rw[aa e2];exact⟨_,_,rfl,fun _ ht=>absurd (by simpa using ht) e1⟩
  .rw[ab e2];obtain⟨t1,z1,q1,q2⟩:=qN h hc ha (qO hb) hbud;obtain⟨t2,z2,q3,q4⟩:=qN h hc (qO ha) hb hbud;rw[q1,aj];dsimp only;rw[cn];by_cases hz1:z1=0
   .rw[aa hz1];cases t1 with
    |false=>exact⟨_,_,rfl,fun _ ht=>by cases ht⟩
    |true=>rw[show(!true)=false from rfl,cf,q3,aj];refine⟨_,_,rfl,fun hz2 ht V hV=>?_⟩;have r1:=q2 hz1 rfl V hV;have r2:=q4 hz2 ht V hV;rw[sN b1.1]at r1;rw[sN a1.1]at r2;cases hva:bb V a<;>cases hvb:bb V b<;>rw[hva,hvb]at r1 r2<;>simp_all
   rw[ab hz1];exact⟨_,_,rfl,fun hz=>absurd hz hz1⟩
theorem GS(hc:aP I Ls As Bs Cs=0){L:LP}{s:Int}(hL:L.length=Ls.length)(hs:s<=1000)(hlit:∀x∈L,db s x.1)(hs0:0<=s){m:Int}(hm:m=0\/p9 I Ls m):∃y,DA I L m=some y/\db s y:=by
 obtain⟨k1,⟨k2,k3,k4,k5⟩,_⟩:=aN hc;unfold DA;by_cases h0:m=0;rw[aa h0];exact⟨0,rfl,cz.2 ⟨by omega,by omega⟩⟩;rw[ab h0];have hm':p9 I Ls m:=by rcases hm with h|h;exact absurd h h0;exact h
 have hb:=gw hc hm';rw[aa ⟨by omega,by omega⟩];obtain⟨k,p,hp,h2,rfl⟩:=hm';have hk:=(tR.1 hp).1;have e:((2*(I+1+(k:Int))+p.2)/2-I-1).toNat=k:=by omega
 rw[e,c6 (by omega)];have hx:=hlit _ (dW (show k<L.length by omega));have hx2:=cz.1 hx;simp only;rw[aa ⟨by omega,by omega⟩];exact⟨_,rfl,Aj hx⟩
def Sem(x:gB)(I:Int)(m h:Int):Prop:=∃y z,DA I x.2.1 m=some y/\DA I x.2.1 h=some z/\∀V,jL (bF x.1 x.2.1) (size x.1 x.2.1 x.2.2.1).toNat x.2.2.1 V->bb V y=bb V z
theorem Bz{q:Int->Option (Bool×Int)}{P:Int->Prop}{h:Int}{ms:Li}(hq:∀m∈ms,∃t e,q m=some (t,e)/\(e=0->t=true->P m)):
  (∃e,e≠0/\oY q h ms=some (.inl e))\/∃a b,oY q h ms=some (.inr (h::a,b))/\a.Sublist ms/\b.Sublist ms/\a.length+b.length=ms.length/\(∀m∈a,P m):=by
 have key:∀(ms:Li),(∀m∈ms,∃t e,q m=some (t,e)/\(e=0->t=true->P m))->∀(a0 b0:Li),(∃e,e≠0/\ms.foldl (nX q) (some (.inr (a0,b0)))=some (.inl e))\/∃a b,ms.foldl (nX q) (some (.inr (a0,b0)))=some (.inr (a0++a,b0++b))/\a.Sublist ms/\b.Sublist ms/\a.length+b.length=ms.length/\(∀m∈a,P m):=by
  intro ms
  induction ms with
  |nil=>intro _ a0 b0;exact .inr ⟨[],[],by simp,.slnil,.slnil,rfl,by simp⟩
  |cons m ms ih=>
   intro hq a0 b0;obtain⟨t,e,h1,h2⟩:=hq m (ix ..);have ih:=ih fun m' hm'=>hq m' (jI _ hm');rw[ue];simp only[nX,h1];by_cases he:e=0
   .rw[aa he];cases t with
    |true=>rw[aa rfl];rcases ih (a0++[m]) b0 with h|⟨a,b,g1,g2,g3,g4,g5⟩;exact .inl h;refine .inr ⟨m::a,b,by rw[g1];simp,g2.cons_cons m,g3.cons m,by simp only[pI];omega,fun m' hm'=>?_⟩;rcases eR.1 hm' with rfl|hm';exact h2 he rfl;exact g5 m' hm'
    |false=>rw[ab (by simp)];rcases ih a0 (b0++[m]) with h|⟨a,b,g1,g2,g3,g4,g5⟩;exact .inl h;exact .inr ⟨a,m::b,by rw[g1];simp,g2.cons m,g3.cons_cons m,by simp only[pI];omega,g5⟩
   rw[ab he];exact .inl ⟨e,he,(yu ms).1 e⟩
 rcases key ms hq [h] []with⟨e,he,h1⟩|⟨a,b,g1,g2⟩;exact .inl ⟨e,he,h1⟩;exact .inr ⟨a,b,by unfold oY;rw[g1];simp,g2⟩
theorem sd.sub{c d:Li}(h:sd I Ls c)(hd:d.Sublist c)(hn:d≠[]):sd I Ls d:=⟨hn,fun m hm=>h.mem m (hd.subset hm),h.up.sublist hd⟩
theorem BK{Q:Int->Int->Option (Bool×Int)}{P:Int->Int->Prop}{l:LL}(hw:∀c∈l,sd I Ls c)(hq:∀c∈l,∀m∈c,∀h∈c,∃t e,Q m h=some (t,e)/\(e=0->t=true->P m h)):
  (∃e,e≠0/\pb Q l=some (.inl e))\/∃S L,pb Q l=some (.inr (S,L))/\(∀c∈S++L,sd I Ls c)/\fh S+fh L=fh l/\S.length=l.length/\(L=[]->∀c∈l,∀h ms,c=h::ms->∀m∈ms,P m h):=by
 have key:∀(l:LL),(∀c∈l,sd I Ls c)->(∀c∈l,∀m∈c,∀h∈c,∃t e,Q m h=some (t,e)/\(e=0->t=true->P m h))->∀(S0 L0:LL),(∃e,e≠0/\l.foldl (l6 Q) (some (.inr (S0,L0)))=some (.inl e))\/∃S L,l.foldl (l6 Q) (some (.inr (S0,L0)))=some (.inr (S0++S,L0++L))/\(∀c∈S++L,sd I Ls c)/\fh S+fh L=fh l/\S.length=l.length/\(L=[]->∀c∈l,∀h ms,c=h::ms->∀m∈ms,P m h):=by
  intro l
  induction l with
  |nil=>intro _ _ S0 L0;exact .inr ⟨[],[],by simp,by simp,rfl,rfl,by simp⟩
  |cons c l ih=>
   intro hw hq S0 L0;have hwc:=hw c (ix ..);have hqc:=hq c (ix ..);have ih:=ih (fun d hd=>hw d (jI _ hd)) (fun d hd=>hq d (jI _ hd));rw[ue]
   match c,hwc,hqc with
   |[],hwc,_=>exact absurd rfl hwc.ne
   |h::ms,hwc,hqc=>rcases Bz (q:=fun m=>Q m h) (P:=fun m=>P m h) (h:=h) (ms:=ms) (fun m hm=>hqc m (jI _ hm) h (ix ..)) with⟨e,he,h1⟩|⟨a,b,h1,h2,h3,h4,h5⟩;simp only[l6,h1];exact .inl ⟨e,he,(yw l).1 e⟩;simp only[l6,h1];rcases ih (S0++[h::a]) (if b=[] then L0 else L0++[b]) with hl|⟨S,L,g1,g2,g3,g4,g5⟩;exact .inl hl;have hwa:sd I Ls (h::a):=hwc.sub (h2.cons_cons h) (by simp);by_cases hb:b=[];refine .inr ⟨(h::a)::S,L,by rw[g1,aa hb];simp,fun d hd=>?_,?_,by simp[g4],fun hL d hd h' ms' hd' m hm=>?_⟩;rw[Kr]at hd;rcases eR.1 hd with rfl|hd;exact hwa;exact g2 d hd;subst hb;simp only[E3,Ds]at h4;simp only[fh,xe,LM,pI]at *;omega;rcases eR.1 hd with rfl|hd;cases hd';subst hb;have ha:a=ms:=h2.eq_of_length (by simpa using h4);exact h5 m (by rw[ha];exact hm);exact g5 hL d hd h' ms' hd' m hm;refine .inr ⟨(h::a)::S,b::L,by rw[g1,ab hb];simp,fun d hd=>?_,?_,by simp[g4],fun hL=>by cases hL⟩;rw[Kr]at hd;rcases eR.1 hd with rfl|hd;exact hwa;rcases jR.1 hd with hd|hd;exact g2 d (uf _ hd);rcases eR.1 hd with rfl|hd;exact hwc.sub (h3.cons h) hb;exact g2 d (D4 _ hd);simp only[fh,xe,LM,pI]at *;omega
 rcases key l hw hq [] []with h|⟨S,L,h1,h2⟩;exact .inl h;exact .inr ⟨S,L,h1,h2⟩
theorem vX{B:LL->Option gB}{E:gB->yi}{P:gB->Int->Int->Prop}(hB:∀l,wI I Ls l->∃x,B l=some x/\∀c∈l,∀m∈c,∀h∈c,∃t e,qF I x.2.1 (E x) m h=some (t,e)/\(e=0->t=true->P x m h))(hn:Ls.length<=1000):∀(k:Nat) (l:LL),wI I Ls l->Ls.length+2<=k+l.length ->
  (∃e,e≠0/\mj B E I k l=some (.inl e))\/∃l' x,mj B E I k l=some (.inr (l',x))/\wI I Ls l'/\B l'=some x/\∀c∈l',∀h ms,c=h::ms->∀m∈ms,P x m h
 |0,l,hw,hk=>by have:=kz (l5 fun c hc=>(hw.1 c hc).ne) hw.2;omega
 |k+1,l,hw,hk=>by
  have hll:=kz (l5 fun c hc=>(hw.1 c hc).ne) hw.2;have hs:sk l=true:=by unfold sk;rw[eJ,ir,uQ];exact⟨by omega,fun c hc=>by have:=kz (rW hc) hw.2;rw[ir];omega⟩
  obtain⟨x,hx,hq⟩:=hB l hw;simp only[mj,aa hs,hx];rcases BK (P:=P x) hw.1 hq with⟨e,he,h1⟩|⟨S,L,h1,h2,h3,h4,h5⟩;rw[h1];exact .inl ⟨e,he,rfl⟩;rw[h1];simp only;by_cases hL:L=[];rw[aa hL];exact .inr ⟨l,x,rfl,hw,hx,h5 hL⟩;rw[ab hL];have hLp:=Mt.2 hL;have hw2:wI I Ls (S++L):=⟨h2,by rw[vh];have:=hw.2;omega⟩;exact vX hB hn k (S++L) hw2 (by rw[ey];omega)
end
end
section
variable {I:Int} {Ls As:Lp} {Bs Cs:Li}
theorem yX(hI:0<=I)(hr:∀x∈Ls,0<=x.2/\x.2<=2):∀q,q<=Ls.length->(∀m∈fV I Ls q,m=0\/(p9 I Ls m/\m/2<I+1+(q:Int)))/\(fV I Ls q).Pairwise (fun x y=>x/2<y/2)
 |0,_=>⟨fun m hm=>by simp[fV]at hm;exact .inl hm,by simp[fV]⟩
 |q+1,hq=>by
  obtain⟨h1,h2⟩:=yX hI hr q (by omega);have hg:Ls[q]?=some Ls[q]:=c6 (by omega);have hx:=hr _ (dW (show q<Ls.length by omega));have up:∀m∈fV I Ls q,m=0\/(p9 I Ls m/\m/2<I+1+((q+1:Nat):Int)):=fun m hm=>by rcases h1 m hm with h|⟨h,h'⟩;exact .inl h;exact .inr ⟨h,by omega⟩
  simp only[fV,hg];by_cases hE:(Ls[q]).2=2;rw[aa hE];exact⟨up,h2⟩;rw[ab hE];refine⟨fun m hm=>?_,LS.2 ⟨h2,by simp,fun a ha b hb=>?_⟩⟩;rcases jR.1 hm with hm|hm;exact up m hm;rw[fQ]at hm;subst hm;exact .inr ⟨⟨q,_,hg,by omega,rfl⟩,by omega⟩;rw[fQ]at hb;subst hb;rcases h1 a ha with h|⟨_,h⟩<;>omega
theorem IP(hc:aP I Ls As Bs Cs=0):wI I Ls [fV I Ls Ls.length]:=by obtain⟨k1,k2,c1,c2,c3,_⟩:=aN hc;obtain⟨h1,h2⟩:=yX k1 (fun x hx=>(c3 x hx).2) Ls.length (dD _);refine⟨fun c hcm=>?_,?_⟩;rw[fQ]at hcm;subst hcm;refine⟨fun e=>?_,fun m hm=>?_,h2⟩;have:=yY I Ls Ls.length;rw[e]at this;simp at this;rcases h1 m hm with h|⟨h,_⟩;exact .inl h;exact .inr h;have:=yZ I Ls Ls.length;simp[fh];exact this
theorem CE(hc:aP I Ls As Bs Cs=0):vZ I Ls=true:=by obtain⟨k1,⟨k2,k3,k4,k5⟩,c1,c2,c3,_⟩:=aN hc;unfold vZ;simp only[eJ,ir,uQ];exact⟨⟨⟨k1,k2⟩,by omega⟩,fun x hx=>(c3 x hx).2⟩
theorem uK{n:Int}{ll:LL}:oO (bt E (DM E)) I Ls As Bs Cs n ll=(aJ I Ls As Bs Cs n ll).bind fun x=>if x.2.1.length<=1000 then some x else none:=by have hask:bt E (DM E) 49 [bU I Ls As Bs Cs,.d (.int .i64) n,.d (.list (.list (.int .i64))) ll] [xn]=aJ I Ls As Bs Cs n ll:=tQ (by kernel_rfl);unfold oO;rw[hask];cases aJ I Ls As Bs Cs n ll<;>rfl
theorem j6{b y z:Int}{x:gB}:kH (bt E (DM E)) b x y z=cr x.1 x.2.1 x.2.2.1 x.2.2.2.1 x.2.2.2.2 y z b:=by unfold kH;exact tQ (by kernel_rfl)
theorem find_eq(h:cG I Ls As Bs Cs)(hc:aP I Ls As Bs Cs=0){b:Int}(hb:0<=b/\b<=100000):
  ca I Ls As Bs Cs b=CJ (mj (oO (bt E (DM E)) I Ls As Bs Cs (size I Ls As)) (kH (bt E (DM E)) b) I (Ls.length+2) [fV I Ls Ls.length]):=by
 have hv:=fj h;rw[aa hc]at hv;have hask:bt E (DM E) 48 [bU I Ls As Bs Cs] [.d (.int .i64),.d (.int .i64)]=some (size I Ls As,(0:Int)):=(tQ (by kernel_rfl)).trans hv;unfold ca;rw[F5 (k:=AB) (by kernel_rfl)];show(match bt E (DM E) 48 [bU I Ls As Bs Cs] [.d (.int .i64),.d (.int .i64)]with
  |some r=>if(show Int×Int from r).2≠0 then some ([],sK,(show Int×Int from r).2)
   else if b<0\/100000<b then some ([],sK,2)
   else if vZ I Ls=true then CJ (mj (oO (bt E (DM E)) I Ls As Bs Cs (show Int×Int from r).1) (kH (bt E (DM E)) b) I (List.length (α:=Int×Int) Ls+2) [fV I Ls (List.length (α:=Int×Int) Ls)]) else none
  |none=>none)=_
 rw[hask];exact(ab (by simp)).trans ((ab (by omega)).trans (aa (CE hc)))
theorem Qz(h:cG I Ls As Bs Cs)(hc:aP I Ls As Bs Cs=0){b:Int}(hb:b<0\/100000<b):ca I Ls As Bs Cs b=some ([],sK,2):=by
 have hv:=fj h;rw[aa hc]at hv;have hask:bt E (DM E) 48 [bU I Ls As Bs Cs] [.d (.int .i64),.d (.int .i64)]=some (size I Ls As,(0:Int)):=(tQ (by kernel_rfl)).trans hv;unfold ca;rw[F5 (k:=AB) (by kernel_rfl)];show(match bt E (DM E) 48 [bU I Ls As Bs Cs] [.d (.int .i64),.d (.int .i64)]with
  |some r=>if(show Int×Int from r).2≠0 then some ([],sK,(show Int×Int from r).2)
   else if b<0\/100000<b then some ([],sK,2)
   else if vZ I Ls=true then CJ (mj (oO (bt E (DM E)) I Ls As Bs Cs (show Int×Int from r).1) (kH (bt E (DM E)) b) I (List.length (α:=Int×Int) Ls+2) [fV I Ls (List.length (α:=Int×Int) Ls)]) else none
  |none=>none)=_
 rw[hask];exact(ab (by simp)).trans (aa hb)
theorem xJ(h:cG I Ls As Bs Cs)(hc:aP I Ls As Bs Cs=0){b:Int}(hb:0<=b/\b<=100000){l:LL}(hw:wI I Ls l):
  ∃x,oO (bt E (DM E)) I Ls As Bs Cs (size I Ls As) l=some x/\∀c∈l,∀m∈c,∀hd∈c,∃t e,qF I x.2.1 (kH (bt E (DM E)) b x) m hd=some (t,e)/\(e=0->t=true->Sem x I m hd):=by
 obtain⟨k1,⟨k2,k3,k4,k5⟩,_⟩:=aN hc;obtain⟨g,hg,hgo,hx⟩:=G7 h hc hw;obtain⟨z1,z2,z3⟩:=tK h hc hgo;obtain⟨j1,⟨j2,j3,j4,j5⟩,d1,d2,d3,_⟩:=aN z2;have hs1:0<=size I (mu I Ls As g) (oJ I Ls As g)/\size I (mu I Ls As g) (oJ I Ls As g)<=1000:=by unfold size;omega
 have hlen:(mu I Ls As g).length=Ls.length:=pH ..;refine⟨lB I Ls As Bs Cs l,?_,fun c hcm m hm hd hhd=>?_⟩;rw[uK,oA h hc hw,aj,hx];exact aa (by show(mu I Ls As g).length<=1000;rw[hlen];omega);rw[hx];have hwc:=hw.1 c hcm;obtain⟨y,hy,ly⟩:=GS (L:=mu I Ls As g) (s:=size I (mu I Ls As g) (oJ I Ls As g)) hc hlen hs1.2 (fun x hx=>(d3 x hx).1) hs1.1 (hwc.mem m hm);obtain⟨z,hz,lz⟩:=GS (L:=mu I Ls As g) (s:=size I (mu I Ls As g) (oJ I Ls As g)) hc hlen hs1.2 (fun x hx=>(d3 x hx).1) hs1.1 (hwc.mem hd hhd);obtain⟨t,e,q1,q2⟩:=xX z1 z2 ly lz hb;refine⟨t,e,?_,fun he ht=>⟨y,z,hy,hz,q2 he ht⟩⟩;show qF I (mu I Ls As g) _ m hd=_;unfold qF;rw[hy,hz];simp only;rw[j6];exact q1
end
section
def fU(n:Nat)(A:LP)(x:Int):Prop:=0<=x/\x/2<((n+1+A.length:Nat):Int)
theorem fU.up{n:Nat}{A B:LP}{x:Int}(h:fU n A x)(hp:A<+:B):fU n B x:=by have:=hp.length_le;exact⟨h.1,by have:=h.2;omega⟩
section
variable {I:Int} {Ls As:Lp} {Bs Cs:Li}
end
end
section
variable {I:Int} {Ls As:Lp} {Bs Cs:Li}
end
section
theorem E9{v:Int}:dM v []:=fun c hc=>by cases hc
theorem Gt:gJ 1 [2] []=(true,[2],[],0):=by show gY 1 [2] (ef 1 [] []+1) _ _ _ _=_;rw[show ef 1 [] []=(ef 1 [] []-1)+1 by decide,zS (T:=[]) (l:=2) (by decide) (by decide) (by decide),BA (T:=[2]) (by decide) (by decide) (by decide)];rfl
theorem Mi:∃x,cS 1 [] [2] 100=some (x,0)/\x.1=true:=
 ⟨_,yf (b:=100) ⟨by decide,by decide,by decide,by decide,by decide⟩ (by decide) E9 (by decide) ⟨by rw[Gt];decide,by omega⟩,by show(gJ 1 [2] []).1=true;rw[Gt]⟩
section
variable {I:Int} {Ls As:Lp} {Bs Cs:Li}
theorem Ah(h:cG I Ls As Bs Cs)(hc:aP I Ls As Bs Cs=0){a bud v:Int}{R:Li}{L:Ll}(hr:∀l∈[a,1],in64 l)(hl:∀l∈[a,1],db (size I Ls As) l)(e:L8 I Ls As [a,1]=(v,([R],L)))
  {ja:Int} (hra:(a/2).toNat<R.length) (hja:R.getD (a/2).toNat 0=2*ja) (h1:1<=ja/\ja<=1000000) (h0:R.getD 0 0=0) (ha:1<a/\a<=1000000)
  {p:Int} (hp:bp R a=p) {x:Jw} (hrun:cS v L [p] bud=some (x,0)):aL I Ls As Bs Cs a 1 bud=some (!x.1,0):=by
 have la:1<p:=by rw[<-hp];unfold bp;rw[hja];omega
 have l1:bp R 1=1:=by unfold bp;rw[show((1:Int)/2).toNat=0 from rfl,h0];rfl
 have s0:=never.step (bud:=bud) (v:=v) (ls:=[a,1]) (A:=[]) (R:=R) (L:=L) (i:=0) (y:=a) (j:=ja) (by simp) (by simp) rfl ⟨by omega,by omega⟩ hra hja ⟨by omega,by omega⟩ (fun h=>by omega) (by simp);have s1:=never.step (bud:=bud) (v:=v) (ls:=[a,1]) (A:=[p]) (R:=R) (L:=L) (i:=1) (y:=1) (j:=0) (by simp) (by simp) rfl ⟨by omega,by omega⟩ (by show((1:Int)/2).toNat<R.length;rw[show((1:Int)/2).toNat=0 from rfl];omega) (by rw[show((1:Int)/2).toNat=0 from rfl,h0];rfl) ⟨by omega,by omega⟩ (fun _=>rfl) (by simp);have he:=tk (bud:=bud) (v:=v) (ls:=[a,1]) (A:=[p]) (rs:=[R]) (L:=L);rw[show((0:Nat):Int)=0 from rfl,hp,ab (by omega),aa la,Ac]at s0;rw[l1,ab (by omega),ab (by omega),show(((1:Nat)+1:Nat):Int)=(([a,1]:Li).length:Int) from rfl,he,hrun,aj]at s1;rw[aL.eq,yn h (by simp) hr hc hl e,aj];dsimp only;rw[cn,aa rfl,s0];exact s1.trans (aa rfl)
theorem rq{a b bud:Int}(ha:0<=a/\a<=1000)(e:a=b):cr I Ls As Bs Cs a b bud=some (true,0):=by subst e;rw[cr.eq,ce,aa rfl,beq_self_eq_true]
theorem lO{a b bud:Int}(ha:0<=a/\a<=1000)(hb:0<=b/\b<=1000)(h1:a≠b)(h2:a≠cZ b)(hn:aL I Ls As Bs Cs a (cZ b) bud=some (false,0)):cr I Ls As Bs Cs a b bud=some (false,0):=by rw[cr.eq,iZ ha.1 (by omega),iZ hb.1 (by omega),ce,ab h1,ce,ab h2,hn,aj];rfl
theorem Aa{L:LP}{E:yi}{m h y z:Int}{r:Bool×Int}(h1:DA I L m=some y)(h2:DA I L h=some z)(h3:E y z=some r):qF I L E m h=some r:=by unfold qF;rw[h1,h2];exact h3
end
def IC(I:Int)(Ls:LP)(m:Int):Bool:=match Ls[(m/2-I-1).toNat]? with
 |some p=>(decide (p.2=0)||decide (p.2=1))&&decide (m=2*(I+1+((m/2-I-1).toNat:Int))+p.2)
 |none=>false
theorem Fm{I:Int}{Ls:LP}{m:Int}(h:IC I Ls m=true):p9 I Ls m:=by unfold IC at h;split at h;rename_i p hp;rw[eJ,Du,ir,ir,ir]at h;exact⟨_,p,hp,h.1,h.2⟩;cases h
def O8(I:Int)(Ls:LP)(l:LL):Bool:=(l.all fun c=>!c.isEmpty&&(c.all fun m=>decide (m=0)||IC I Ls m)&&decide (c.Pairwise (fun x y=>x/2<y/2)))&&decide (fh l<=Ls.length+1)
theorem HY{I:Int}{Ls:LP}{l:LL}(h:O8 I Ls l=true):wI I Ls l:=by unfold O8 at h;rw[eJ,ir,uQ]at h;refine⟨fun c hc=>?_,h.2⟩;have:=h.1 c hc;rw[eJ,eJ,ir,uQ]at this;obtain⟨⟨h1,h2⟩,h3⟩:=this;refine⟨fun e=>by rw[e]at h1;simp at h1,fun m hm=>?_,h3⟩;have:=h2 m hm;rw[Du,ir]at this;exact this.imp id Fm
section
variable {I:Int} {Ls As:Lp} {Bs Cs:Li}
theorem nf(h:cG I Ls As Bs Cs)(hc:aP I Ls As Bs Cs=0){b:Int}{k:Nat}{l:LL}(hw:O8 I Ls l=true){x:gB}(hx:lB I Ls As Bs Cs l=x)(hxl:x.2.1.length<=1000)(hs:sk l=true){S L:LL}(hr:pb (qF I x.2.1 (kH (bt E (DM E)) b x)) l=some (.inr (S,L))):
  mj (oO (bt E (DM E)) I Ls As Bs Cs (size I Ls As)) (kH (bt E (DM E)) b) I (k+1) l=if L=[] then some (.inr (l,x)) else mj (oO (bt E (DM E)) I Ls As Bs Cs (size I Ls As)) (kH (bt E (DM E)) b) I k (S++L):=by
 have hB:oO (bt E (DM E)) I Ls As Bs Cs (size I Ls As) l=some x:=by rw[uK,oA h hc (HY hw),aj,hx,aa hxl]
 simp only[mj,aa hs,hB,hr]
end
theorem lF{f s n:Int}(hf:0<=f/\f<=2)(hs:0<=s/\s<=2)(hn:0<=n/\n<=100){Bs:Li}(hB:Bs.length<=10)(hB2:∀x∈Bs,in64 x){a:Int}(ha:0<=a/\a<=100):cG 1 [(a,f),(n,s)] [] Bs []:=by refine⟨by unfold in64;omega,⟨by simp,fun x hx=>?_⟩,⟨by simp,by simp⟩,⟨by omega,hB2⟩,⟨by simp,by simp⟩⟩;simp only[eR,Pe,or_false]at hx;rcases hx with rfl|rfl<;>exact⟨by unfold in64;simp only;omega,by unfold in64;simp only;omega⟩
theorem qk{Ls:LP}{Bs:Li}(h:cG 1 Ls [] Bs [])(hc:aP 1 Ls [] Bs []=0){R:Li}(e:L8 1 Ls [] [2,1]=(1,([R],[])))(hl:R.length=Ls.length+2)(h1:R.getD 1 0=2)(h0:R.getD 0 0=0):aL 1 Ls [] Bs [] 2 1 100=some (false,0):=by
 obtain⟨x,hx,hs⟩:=Mi;have hsz:1<=size 1 Ls []:=by unfold size;simp;omega
 have:=Ah h hc (bud:=100) (a:=2) (by simp[in64]) (by intro l hl;simp only[eR,Pe,or_false]at hl;rcases hl with rfl|rfl<;>exact cz.2 ⟨by omega,by omega⟩) e (ja:=1) (by show((2:Int)/2).toNat<R.length;rw[show((2:Int)/2).toNat=1 from rfl];omega) (by rw[show((2:Int)/2).toNat=1 from rfl,h1];rfl) (by omega) h0 (by omega) (p:=2) (by unfold bp;rw[show((2:Int)/2).toNat=1 from rfl,h1];rfl) hx;rw[this,hs];rfl
theorem CI:ca 1 [(2,0),(2,0)] [] [4,6] [] 100=some ([[0],[4,6]],(1,[(2,0),(2,0)],[],[4,4],[]),0):=by
 have h0:=lF (f:=0) (s:=0) (n:=2) (a:=2) (by omega) (by omega) (by omega) (Bs:=[4,6]) (by simp) (by simp[in64]) (by omega);have c0:aP 1 [(2,0),(2,0)] [] [4,6] []=0:=by decide
 have h1:=lF (f:=0) (s:=0) (n:=2) (a:=2) (by omega) (by omega) (by omega) (Bs:=[0,0]) (by simp) (by simp[in64]) (by omega);have c1:aP 1 [(2,0),(2,0)] [] [0,0] []=0:=by decide
 have n1:=qk h1 c1 (R:=[0,2,-1,-1]) (by kernel_rfl) rfl rfl rfl;have b1:lB 1 [(2,0),(2,0)] [] [4,6] [] [[0,4,6]]=(1,[(2,0),(2,0)],[],[0,0],[]):=by kernel_rfl
 have b2:lB 1 [(2,0),(2,0)] [] [4,6] [] [[0],[4,6]]=(1,[(2,0),(2,0)],[],[4,4],[]):=by kernel_rfl
 have q1:qF 1 [(2,0),(2,0)] (kH (bt E (DM E)) 100 (1,[(2,0),(2,0)],[],[0,0],[])) 4 0=some (false,0):=Aa (y:=2) (z:=0) (by decide) (by decide) (j6.trans (lO (by omega) (by omega) (by omega) (by decide) n1));have q2:qF 1 [(2,0),(2,0)] (kH (bt E (DM E)) 100 (1,[(2,0),(2,0)],[],[0,0],[])) 6 0=some (false,0):=Aa (y:=2) (z:=0) (by decide) (by decide) (j6.trans (lO (by omega) (by omega) (by omega) (by decide) n1));have q3:qF 1 [(2,0),(2,0)] (kH (bt E (DM E)) 100 (1,[(2,0),(2,0)],[],[4,4],[])) 6 4=some (true,0):=Aa (y:=2) (z:=2) (by decide) (by decide) (j6.trans (rq (by omega) rfl));have r1:=nf h0 c0 (b:=100) (k:=3) (l:=[[0,4,6]]) (by decide) b1 (by simp) (by decide) (S:=[[0]]) (L:=[[4,6]]) (by simp only[pb,oY,ue,OG,l6,nX,q1,q2];simp);have r2:=nf h0 c0 (b:=100) (k:=2) (l:=[[0],[4,6]]) (by decide) b2 (by simp) (by decide) (S:=[[0],[4,6]]) (L:=[]) (by simp only[pb,oY,ue,OG,l6,nX,q3,Kr,Ac];simp);rw[find_eq h0 c0 (by omega),show fV 1 [(2,0),(2,0)] ([(2,0),(2,0)]:LP).length=[0,4,6] by decide];exact mM CJ (r1.trans ((ab (by simp)).trans (r2.trans (aa rfl))))
theorem CH:ca 1 [(2,0),(3,1)] [] [4,6] [] 100=some ([[0],[4,7]],(1,[(2,0),(3,1)],[],[4,5],[]),0):=by
 have h0:=lF (f:=0) (s:=1) (n:=3) (a:=2) (by omega) (by omega) (by omega) (Bs:=[4,6]) (by simp) (by simp[in64]) (by omega);have c0:aP 1 [(2,0),(3,1)] [] [4,6] []=0:=by decide
 have h1:=lF (f:=0) (s:=1) (n:=3) (a:=2) (by omega) (by omega) (by omega) (Bs:=[0,1]) (by simp) (by simp[in64]) (by omega);have c1:aP 1 [(2,0),(3,1)] [] [0,1] []=0:=by decide
 have n1:=qk h1 c1 (R:=[0,2,-1,-1]) (by kernel_rfl) rfl rfl rfl;have b1:lB 1 [(2,0),(3,1)] [] [4,6] [] [[0,4,7]]=(1,[(2,0),(3,1)],[],[0,1],[]):=by kernel_rfl
 have b2:lB 1 [(2,0),(3,1)] [] [4,6] [] [[0],[4,7]]=(1,[(2,0),(3,1)],[],[4,5],[]):=by kernel_rfl
 have q1:qF 1 [(2,0),(3,1)] (kH (bt E (DM E)) 100 (1,[(2,0),(3,1)],[],[0,1],[])) 4 0=some (false,0):=Aa (y:=2) (z:=0) (by decide) (by decide) (j6.trans (lO (by omega) (by omega) (by omega) (by decide) n1));have q2:qF 1 [(2,0),(3,1)] (kH (bt E (DM E)) 100 (1,[(2,0),(3,1)],[],[0,1],[])) 7 0=some (false,0):=Aa (y:=2) (z:=0) (by decide) (by decide) (j6.trans (lO (by omega) (by omega) (by omega) (by decide) n1));have q3:qF 1 [(2,0),(3,1)] (kH (bt E (DM E)) 100 (1,[(2,0),(3,1)],[],[4,5],[])) 7 4=some (true,0):=Aa (y:=2) (z:=2) (by decide) (by decide) (j6.trans (rq (by omega) rfl));have r1:=nf h0 c0 (b:=100) (k:=3) (l:=[[0,4,7]]) (by decide) b1 (by simp) (by decide) (S:=[[0]]) (L:=[[4,7]]) (by simp only[pb,oY,ue,OG,l6,nX,q1,q2];simp);have r2:=nf h0 c0 (b:=100) (k:=2) (l:=[[0],[4,7]]) (by decide) b2 (by simp) (by decide) (S:=[[0],[4,7]]) (L:=[]) (by simp only[pb,oY,ue,OG,l6,nX,q3,Kr,Ac];simp);rw[find_eq h0 c0 (by omega),show fV 1 [(2,0),(3,1)] ([(2,0),(3,1)]:LP).length=[0,4,7] by decide];exact mM CJ (r1.trans ((ab (by simp)).trans (r2.trans (aa rfl))))
theorem Gx.loop{a:LL}(h:∀c∈a,c.length<=100000)(hn:a.length<=100000):∀(k i:Nat),i+k=a.length->ao.l0 a a (i:Int)=some true
 |0,i,hi=>by rw[ao.l0_eq,cd,ab (by omega)]
 |k+1,i,hi=>by
  have hlt:i<a.length:=by omega
  have hw:=wi i (by omega);rw[ao.l0_eq,cd,aa (by omega),bu hlt,aj,aj,ma (h _ (dW hlt)),aj,show(!true)=false from rfl,cf,hw];exact Gx.loop h hn k (i+1) (by omega)
theorem qt{a:LL}(h:∀c∈a,c.length<=100000)(hn:a.length<=100000):ao a a=some true:=by rw[ao.eq,cn,aa rfl];exact Gx.loop h hn a.length 0 (by omega)
theorem Dc:cE=some true:=by rw[cE.eq,cx.eq,aj];dsimp only;rw[cJ.eq,CI,aj,aj,cx.eq,aj];dsimp only;rw[cJ.eq,CH,aj,aj];dsimp only;rw[ce,aa rfl,qt (by decide) (by decide),aj,ct,ce,aa rfl,qt (by decide) (by decide),aj]
end
section
variable {I:Int} {Ls As:Lp} {Bs Cs:Li}
theorem y8(h:cG I Ls As Bs Cs):∃b,cD I Ls As Bs Cs=some b/\(b=false->aP I Ls As Bs Cs=0->Ls.length<=12/\As.length<=40/\I<=20):=by rw[cD.eq,qx h,aj,cd];split;exact⟨true,rfl,fun h=>by cases h⟩;rw[hU h,aj,ce];split;rename_i hc;rw[cd];split;exact⟨true,rfl,fun h=>by cases h⟩;rw[cd];split;exact⟨true,rfl,fun h=>by cases h⟩;exact⟨_,rfl,fun h _=>by have:=of_decide_eq_false h;omega⟩;rename_i hc;exact⟨false,rfl,fun _ h=>absurd h hc⟩
theorem A6(b:Int):∃d,cI b=some d/\(d=false->b<=1000\/100000<b):=by rw[cI.eq,cd];split;exact⟨_,rfl,fun h=>by have:=of_decide_eq_false h;omega⟩;exact⟨_,rfl,fun _=>by omega⟩
end
section
variable {I:Int} {Ls As:Lp} {Bs Cs:Li}
variable {Ls' As':Lp} {Bs' Cs':Li} {A:LP} {lit:Int}
end
section
variable {I:Int} {Ls As:Lp} {Bs Cs:Li}
variable {b1 b1_5 b1_6 b1_11:Int} {b1_1 b1_2 b1_10:LP} {b1_3 b1_4 b1_7 b1_9:Li} {b1_8:LL} {o2:Lb}
end
end Go.Proofs.YtfjpfjnepdhnaaaGreat

